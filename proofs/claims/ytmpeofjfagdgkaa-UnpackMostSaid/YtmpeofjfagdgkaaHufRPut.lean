/- The reference's Bits and Put. -/
import Derived.Test.YtmpeofjfagdgkaaHufPut
set_option linter.unusedSimpArgs false
set_option linter.unusedVariables false
namespace Go.Proofs.Ytmpeofjfagdgkaa
open Go.Abs
open Int renaming reduceEq → i_0, reduceLE → i_1, reduceLT → i_2, reduceNe → i_3, reduceNeg → i_4, reduceAdd → i_5, reduceSub → i_6, reduceMul → i_7, reduceToNat → i_8
open Nat renaming reduceLT → n_0, reduceLeDiff → n_1, reduceEqDiff → n_2, reduceAdd → n_3, reduceSub → n_4, reduceMul → n_5
set_option maxRecDepth 100000
/-- Bits as bytes of 0 and 1. -/
def b01 (l : List Bool) : List UInt8 := l.map fun b => UInt8.ofNat b.toNat
theorem b01_len (l : List Bool) : (b01 l).length = l.length := by simp [b01]
theorem b01_app (l r : List Bool) : b01 (l ++ r) = b01 l ++ b01 r := by simp [b01]
theorem b01_at {l : List Bool} {j : Nat} (h : j < l.length) : ((b01 l)[j]!).toNat = (l[j]!).toNat := by
  rw [getElem!_pos _ j (by rw [b01_len]; exact h), getElem!_pos l j h]
  simp only [b01, List.getElem_map]
  cases l[j] <;> rfl
theorem tb_at : ∀ (n w j : Nat), j < n → (toBits n w)[j]! = (w / 2 ^ (n - 1 - j) % 2 == 1)
  | n + 1, w, j, h => by
    have hl := toBits_len (n + 1) w
    rw [getElem!_pos _ j (by omega)]
    simp only [toBits]
    by_cases hj : j < n
    · rw [List.getElem_append_left (by rw [toBits_len]; exact hj)]
      have := tb_at n (w / 2) j hj
      rw [getElem!_pos _ j (by rw [toBits_len]; exact hj)] at this
      rw [this, Nat.div_div_eq_div_mul, ← Nat.pow_succ', show (n - 1 - j).succ = n + 1 - 1 - j by omega]
    · have : j = n := by omega
      subst this
      rw [List.getElem_append_right (by rw [toBits_len]; exact Nat.le_refl _)]
      simp
set_option maxHeartbeats 4000000 in
theorem rbits (s : List UInt8) (h0 : AH) (hs : s.length ≤ 100000) : callW Try.prog Try.T 66 [.str s] h0 fun v h' => NewB h0 (b01 (allBits s)) v h' := by
  have hwl := ctabW_len
  refine callW_in (n := 50) (rs := [.tmp 2]) (m := 50) Try.func66 rfl rfl rfl rfl fun tr ht => ?_; have e0 := ht 0 _ rfl; clear ht
  repeat' (first
      | with_reducible first | refine Nx.h ?_ | (refine hK _ _ ?_; clear hK K)
      | ((with_reducible refine q_eo ?_ ?_); exact rfl)
      | ((with_reducible first | (refine Ny.h ?_; intro K hK) | (refine c_drw (by decide +kernel) ?_; intro K hK) | refine c_cond ?_ | show endW _ _ _ _ _ | (refine Nz.h ?_ ?_ <;> intro _) | fail) <;> try simp (disch := first | exact dz | fail) only [go_sem, i_0, i_1, i_2, i_3, i_4, i_5, i_6, i_7, i_8, n_0, n_1, n_2, n_3, n_4, n_5, reduceCtorEq, reduceIte, e0]))
  refine callM_of (refCodes h0) ?_
  rintro v h1 ⟨⟨ic, hic, oc⟩, hk⟩
  have hiclt : ic < h1.size := oc.lt (by intro e; rw [e] at hwl; simp at hwl)
  have hk1 := hk.1
  have hk2 := hk.2
  refine vI ?_; repeat' (first
      | with_reducible first | refine Nx.h ?_ | (refine hK _ _ ?_; clear hK K)
      | ((with_reducible refine q_eo ?_ ?_); exact rfl)
      | ((with_reducible first | refine vO ?_ | (refine Ny.h ?_; intro K hK) | (refine c_drw (by decide +kernel) ?_; intro K hK) | refine c_cond ?_ | show endW _ _ _ _ _ | (refine Nz.h ?_ ?_ <;> intro _) | fail) <;> try simp (disch := first | exact dz | fail) only [go_sem, i_0, i_1, i_2, i_3, i_4, i_5, i_6, i_7, i_8, n_0, n_1, n_2, n_3, n_4, n_5, reduceCtorEq, reduceIte, e0]))
  refine c_loopF 562949953419248 (fun m tm h => ∃ (k : Nat) (a : AV) (i : Nat), tm.get 5 = .int .i64 k ∧ tm.get 4 = a ∧ Ow E8 h i a (b01 (allBits (s.take k))) ∧ Ow EI h ic v ctabW ∧ h1.size ≤ i ∧ h1.size ≤ h.size ∧ (∀ b, b < h1.size → h.get b = h1.get b) ∧ k ≤ s.length ∧ m = s.length - k) (s.length) (by kernel_rfl) ?_ ?_
  · refine ⟨0, _, h1.size, ?_, ?_, .nil0 true 0, oc, Nat.le_refl _, Nat.le_refl _, fun _ _ => rfl, by omega, rfl⟩ <;> (first | with_reducible rfl | (simp (disch := first | exact dz | fail) only [go_sem, i_0, i_1, i_2, i_3, i_4, i_5, i_6, i_7, i_8, n_0, n_1, n_2, n_3, n_4, n_5, reduceCtorEq, reduceIte] <;> first | with_reducible rfl | (congr 1 <;> omega)))
  · rintro m tr2 h2 ho ⟨k, a, i, t5, t4, oa, oc, hi, hz, hf, hk, rfl⟩
    have k0 := ho 0 (Seen.of rfl); simp (disch := first | exact dz | fail) only [go_sem, i_0, i_1, i_2, i_3, i_4, i_5, i_6, i_7, i_8, n_0, n_1, n_2, n_3, n_4, n_5, reduceCtorEq, reduceIte, e0] at k0; have k3 := ho 3 (Seen.of rfl); simp (disch := first | exact dz | fail) only [go_sem, i_0, i_1, i_2, i_3, i_4, i_5, i_6, i_7, i_8, n_0, n_1, n_2, n_3, n_4, n_5, reduceCtorEq, reduceIte, e0] at k3
    have sc := oc.sl
    by_cases hks : k < s.length
    · have hbt := allBits_take hks
      generalize hc : s[k]! = c at *
      have hc2 := c.toNat_lt
      have hcb : codeBits c.toNat = toBits (ctab[c.toNat]!).1.toNat (ctab[c.toNat]!).2.toNat := rfl
      have hco := ctab_ok c.toNat (by omega)
      have hwa := ctabW_at (s := c.toNat) (by omega)
      have hbl1 := allBits_len (s.take k)
      have hbl2 := bitsLen_le (s.take k)
      rw [List.length_take] at hbl2
      repeat' (first
      | with_reducible first | refine Nx.h ?_ | (refine hK _ _ ?_; clear hK K)
      | ((with_reducible refine q_eo ?_ ?_); exact rfl)
      | ((with_reducible first | (refine Ny.h ?_; intro K hK) | (refine c_drw (by decide +kernel) ?_; intro K hK) | refine c_cond ?_ | show endW _ _ _ _ _ | (refine Nz.h ?_ ?_ <;> intro _) | fail) <;> try simp (disch := first | exact dz | fail) only [go_sem, i_0, i_1, i_2, i_3, i_4, i_5, i_6, i_7, i_8, n_0, n_1, n_2, n_3, n_4, n_5, reduceCtorEq, reduceIte, t5, t4, k0, k3, hc]))
      refine callM_of (long (c.toNat : Int) h2 (by omega) (by omega)) ?_
      rintro w h3 ⟨rfl, rfl⟩
      rw [Int.toNat_natCast]
      generalize hcc : ctab[c.toNat]! = cc at *
      obtain ⟨cn, cw⟩ := cc
      simp only at hcb hco hwa
      refine vI ?_; repeat' (first
      | with_reducible first | refine Nx.h ?_ | (refine hK _ _ ?_; clear hK K)
      | ((with_reducible refine q_eo ?_ ?_); exact rfl)
      | ((with_reducible first | refine vO ?_ | (refine Ny.h ?_; intro K hK) | (refine c_drw (by decide +kernel) ?_; intro K hK) | refine c_cond ?_ | show endW _ _ _ _ _ | (refine Nz.h ?_ ?_ <;> intro _) | fail) <;> try simp (disch := first | exact dz | fail) only [go_sem, i_0, i_1, i_2, i_3, i_4, i_5, i_6, i_7, i_8, n_0, n_1, n_2, n_3, n_4, n_5, reduceCtorEq, reduceIte, t5, t4, k0, k3, hc, hwa]))
      have hcw : cw ≤ 1073741824 := by
        have := pow_mono2 (a := cn.toNat) (b := 30) (by omega)
        have e : (2 : Int) ^ 30 = 1073741824 := by decide
        omega
      refine c_loopF 562947805939472 (fun m tm h => ∃ (j : Nat) (a : AV) (i : Nat), tm.get 8 = .int .i64 (cn - 1 - j) ∧ tm.get 4 = a ∧ Ow E8 h i a (b01 (allBits (s.take k)) ++ b01 ((codeBits c.toNat).take j)) ∧ Ow EI h ic v ctabW ∧ h1.size ≤ i ∧ h1.size ≤ h.size ∧ (∀ b, b < h1.size → h.get b = h1.get b) ∧ (j : Int) ≤ cn ∧ m = cn.toNat - j) (cn.toNat) (by kernel_rfl) ?_ ?_
      · refine ⟨0, a, i, ?_, ?_, by simpa [b01] using oa, oc, hi, hz, hf, by omega, rfl⟩ <;> (first | with_reducible rfl | (simp (disch := first | exact dz | fail) only [go_sem, i_0, i_1, i_2, i_3, i_4, i_5, i_6, i_7, i_8, n_0, n_1, n_2, n_3, n_4, n_5, reduceCtorEq, reduceIte, t4] <;> first | with_reducible rfl | (congr 1 <;> omega)))
      · rintro m tr3 h4 ho3 ⟨j, a, i, t8, t4, oa, oc, hi, hz, hf, hj, rfl⟩
        have q0 := ho3 0 (Seen.of rfl); simp (disch := first | exact dz | fail) only [go_sem, i_0, i_1, i_2, i_3, i_4, i_5, i_6, i_7, i_8, n_0, n_1, n_2, n_3, n_4, n_5, reduceCtorEq, reduceIte, k0, k3, t5] at q0; have q3 := ho3 3 (Seen.of rfl); simp (disch := first | exact dz | fail) only [go_sem, i_0, i_1, i_2, i_3, i_4, i_5, i_6, i_7, i_8, n_0, n_1, n_2, n_3, n_4, n_5, reduceCtorEq, reduceIte, k0, k3, t5] at q3; have q5 := ho3 5 (Seen.of rfl); simp (disch := first | exact dz | fail) only [go_sem, i_0, i_1, i_2, i_3, i_4, i_5, i_6, i_7, i_8, n_0, n_1, n_2, n_3, n_4, n_5, reduceCtorEq, reduceIte, k0, k3, t5] at q5; have q7 := ho3 7 (Seen.of rfl); simp (disch := first | exact dz | fail) only [go_sem, i_0, i_1, i_2, i_3, i_4, i_5, i_6, i_7, i_8, n_0, n_1, n_2, n_3, n_4, n_5, reduceCtorEq, reduceIte, k0, k3, t5] at q7
        repeat' (first
      | with_reducible first | refine Nx.h ?_ | (refine hK _ _ ?_; clear hK K)
      | ((with_reducible refine q_eo ?_ ?_); exact rfl)
      | ((with_reducible first | (refine Ny.h ?_; intro K hK) | (refine c_drw (by decide +kernel) ?_; intro K hK) | refine c_cond ?_ | show endW _ _ _ _ _ | (refine Nz.h ?_ ?_ <;> intro _) | fail) <;> try simp (disch := first | exact dz | fail) only [go_sem, i_0, i_1, i_2, i_3, i_4, i_5, i_6, i_7, i_8, n_0, n_1, n_2, n_3, n_4, n_5, reduceCtorEq, reduceIte, t8, t4, q7, q5]))
        · refine c_loopF 8727373547008 (fun m tm h => ∃ (x : Nat), tm.get 10 = .int .i64 x ∧ tm.get 9 = .int .i64 (cw / 2 ^ x) ∧ h = h4 ∧ (x : Int) ≤ cn - 1 - j ∧ m = (cn - 1 - j).toNat - x) ((cn - 1 - j).toNat) (by kernel_rfl) ?_ ?_
          · refine ⟨0, ?_, ?_, rfl, by omega, rfl⟩ <;> (first | with_reducible rfl | (simp (disch := first | exact dz | fail) only [go_sem, i_0, i_1, i_2, i_3, i_4, i_5, i_6, i_7, i_8, n_0, n_1, n_2, n_3, n_4, n_5, reduceCtorEq, reduceIte, q7, Int.pow_zero, Int.ediv_one] <;> first | with_reducible rfl | (congr 1 <;> omega)))
          · rintro m tr4 h5 ho4 ⟨x, t10, t9, rfl, hx, rfl⟩
            have p4 := ho4 4 (Seen.of rfl); simp (disch := first | exact dz | fail) only [go_sem, i_0, i_1, i_2, i_3, i_4, i_5, i_6, i_7, i_8, n_0, n_1, n_2, n_3, n_4, n_5, reduceCtorEq, reduceIte, t4, t8] at p4; have p8 := ho4 8 (Seen.of rfl); simp (disch := first | exact dz | fail) only [go_sem, i_0, i_1, i_2, i_3, i_4, i_5, i_6, i_7, i_8, n_0, n_1, n_2, n_3, n_4, n_5, reduceCtorEq, reduceIte, t4, t8] at p8
            have hp0 : (0 : Int) < 2 ^ x := Int.pow_pos (by decide)
            have hd0 : 0 ≤ cw / 2 ^ x := Int.ediv_nonneg (by omega) (by omega)
            have hd1 : cw / 2 ^ x ≤ cw := Int.ediv_le_self _ (by omega)
            have hdd : cw / 2 ^ x / 2 = cw / 2 ^ (x + 1) := by rw [Int.ediv_ediv_of_nonneg (by omega), ← Int.pow_succ]
            repeat' (first
      | with_reducible first | refine Nx.h ?_ | (refine hK _ _ ?_; clear hK K)
      | ((with_reducible refine q_eo ?_ ?_); exact rfl)
      | ((with_reducible first | (refine Ny.h ?_; intro K hK) | (refine c_drw (by decide +kernel) ?_; intro K hK) | refine c_cond ?_ | show endW _ _ _ _ _ | (refine Nz.h ?_ ?_ <;> intro _) | fail) <;> try simp (disch := first | exact dz | fail) only [go_sem, i_0, i_1, i_2, i_3, i_4, i_5, i_6, i_7, i_8, n_0, n_1, n_2, n_3, n_4, n_5, reduceCtorEq, reduceIte, t10, t9, p4, p8]))
            · dsimp only
              refine ⟨rfl, _, ?_, x + 1, ?_, ?_, rfl, by omega, rfl⟩
              · omega
              · (first | with_reducible rfl | (simp (disch := first | exact dz | fail) only [go_sem, i_0, i_1, i_2, i_3, i_4, i_5, i_6, i_7, i_8, n_0, n_1, n_2, n_3, n_4, n_5, reduceCtorEq, reduceIte, t10] <;> first | with_reducible rfl | (congr 1 <;> omega)))
              · (first | with_reducible rfl | (simp (disch := first | exact dz | fail) only [go_sem, i_0, i_1, i_2, i_3, i_4, i_5, i_6, i_7, i_8, n_0, n_1, n_2, n_3, n_4, n_5, reduceCtorEq, reduceIte, t9, hdd] <;> first | with_reducible rfl | (congr 1 <;> omega)))
            · have hxe : x = cn.toNat - 1 - j := by omega
              have hbit := tb_at cn.toNat cw.toNat j (by omega)
              rw [← hxe, ← hcb] at hbit
              have hcl : (codeBits c.toNat).length = cn.toNat := by rw [hcb, toBits_len]
              have htk : (codeBits c.toNat).take (j + 1) = (codeBits c.toNat).take j ++ [(codeBits c.toNat)[j]!] := by
                rw [List.take_add_one, List.getElem?_eq_getElem (by omega), getElem!_pos _ j (by omega)]; rfl
              have hbv : UInt8.ofNat (cw / 2 ^ x % 2 % 256).toNat = UInt8.ofNat ((codeBits c.toNat)[j]!).toNat := by
                rw [hbit]
                have e : cw / 2 ^ x % 2 = ((cw.toNat / 2 ^ x % 2 : Nat) : Int) := by
                  push_cast; rw [Int.toNat_of_nonneg (by omega)]
                have h2 : cw.toNat / 2 ^ x % 2 < 2 := Nat.mod_lt _ (by decide)
                rw [e]
                generalize cw.toNat / 2 ^ x % 2 = y at *
                have : y = 0 ∨ y = 1 := by omega
                rcases this with rfl | rfl <;> rfl
              have hl1 := b01_len (allBits (s.take k))
              have hl2 := b01_len ((codeBits c.toNat).take j)
              rw [List.length_take] at hl2
              refine Try.a833 oa (by omega) (by omega) (by rw [List.length_append]; omega) fun z h7 i7 ho7 hi7 hz7 hf7 => ?_
              refine vI ?_; repeat' (first
      | with_reducible first | refine Nx.h ?_ | (refine hK _ _ ?_; clear hK K)
      | ((with_reducible refine q_eo ?_ ?_); exact rfl)
      | ((with_reducible first | refine vO ?_ | (refine Ny.h ?_; intro K hK) | (refine c_drw (by decide +kernel) ?_; intro K hK) | refine c_cond ?_ | show endW _ _ _ _ _ | (refine Nz.h ?_ ?_ <;> intro _) | fail) <;> try simp (disch := first | exact dz | fail) only [go_sem, i_0, i_1, i_2, i_3, i_4, i_5, i_6, i_7, i_8, n_0, n_1, n_2, n_3, n_4, n_5, reduceCtorEq, reduceIte, t10, t9, p4, p8]))
              try dsimp only
              refine ⟨rfl, _, ?_, j + 1, z, i7, ?_, ?_, ?_, oc.frame (fun hb => hf7 _ hb (by omega)) (by omega), by omega, by omega, fun b hb => (hf7 b (by omega) (by omega)).trans (hf b hb), by omega, rfl⟩
              · omega
              · (first | with_reducible rfl | (simp (disch := first | exact dz | fail) only [go_sem, i_0, i_1, i_2, i_3, i_4, i_5, i_6, i_7, i_8, n_0, n_1, n_2, n_3, n_4, n_5, reduceCtorEq, reduceIte, p8] <;> first | with_reducible rfl | (congr 1 <;> omega)))
              · (first | with_reducible rfl | (simp (disch := first | exact dz | fail) only [go_sem, i_0, i_1, i_2, i_3, i_4, i_5, i_6, i_7, i_8, n_0, n_1, n_2, n_3, n_4, n_5, reduceCtorEq, reduceIte, p4] <;> first | with_reducible rfl | (congr 1 <;> omega)))
              · rw [htk, b01_app, ← List.append_assoc]
                show Ow E8 h7 i7 z (_ ++ [UInt8.ofNat ((codeBits c.toNat)[j]!).toNat])
                rw [← hbv]; exact ho7
        · have hjc : (j : Int) = cn := by omega
          have : (codeBits c.toNat).take j = codeBits c.toNat := List.take_of_length_le (by rw [hcb, toBits_len]; omega)
          rw [this] at oa
          try dsimp only
          refine ⟨rfl, _, ?_, k + 1, a, i, ?_, ?_, ?_, oc, hi, hz, hf, by omega, rfl⟩
          · omega
          · (first | with_reducible rfl | (simp (disch := first | exact dz | fail) only [go_sem, i_0, i_1, i_2, i_3, i_4, i_5, i_6, i_7, i_8, n_0, n_1, n_2, n_3, n_4, n_5, reduceCtorEq, reduceIte, q5] <;> first | with_reducible rfl | (congr 1 <;> omega)))
          · (first | with_reducible rfl | (simp (disch := first | exact dz | fail) only [go_sem, i_0, i_1, i_2, i_3, i_4, i_5, i_6, i_7, i_8, n_0, n_1, n_2, n_3, n_4, n_5, reduceCtorEq, reduceIte, t4] <;> first | with_reducible rfl | (congr 1 <;> omega)))
          · rw [hbt, b01_app]; exact oa
    · have : s.take k = s := List.take_of_length_le (by omega)
      rw [this] at oa
      repeat' (first
      | with_reducible first | refine Nx.h ?_ | (refine hK _ _ ?_; clear hK K)
      | ((with_reducible refine q_eo ?_ ?_); exact rfl)
      | ((with_reducible first | (refine Ny.h ?_; intro K hK) | (refine c_drw (by decide +kernel) ?_; intro K hK) | refine c_cond ?_ | show endW _ _ _ _ _ | (refine Nz.h ?_ ?_ <;> intro _) | fail) <;> try simp (disch := first | exact dz | fail) only [go_sem, i_0, i_1, i_2, i_3, i_4, i_5, i_6, i_7, i_8, n_0, n_1, n_2, n_3, n_4, n_5, reduceCtorEq, reduceIte, t5, t4, k0]))
      exact ⟨⟨i, by omega, oa⟩, by omega, fun b hb => (hf b (by omega)).trans (hk2 b hb)⟩
theorem val_snoc (l : List Bool) (b : Bool) : val (l ++ [b]) = 2 * val l + b.toNat := by
  rw [val_append]; simp [val]; omega
theorem ones_succ (n : Nat) : ones (n + 1) = ones n ++ [true] := by
  unfold ones
  rw [List.replicate_succ']
set_option maxHeartbeats 4000000 in
theorem rput (s : List UInt8) (h0 : AH) (hs : s.length ≤ 100000) : callW Try.prog Try.T 50 [.str s] h0 fun v h' => NewB h0 (putB s) v h' := by
  have hbl1 := allBits_len s
  have hbl2 := bitsLen_le s
  refine callW_in (n := 43) (rs := [.tmp 2]) (m := 43) Try.func50 rfl rfl rfl rfl fun tr ht => ?_; have e0 := ht 0 _ rfl; clear ht
  repeat' (first
      | with_reducible first | refine Nx.h ?_ | (refine hK _ _ ?_; clear hK K)
      | ((with_reducible refine q_eo ?_ ?_); exact rfl)
      | ((with_reducible first | (refine Ny.h ?_; intro K hK) | (refine c_drw (by decide +kernel) ?_; intro K hK) | refine c_cond ?_ | show endW _ _ _ _ _ | (refine Nz.h ?_ ?_ <;> intro _) | fail) <;> try simp (disch := first | exact dz | fail) only [go_sem, i_0, i_1, i_2, i_3, i_4, i_5, i_6, i_7, i_8, n_0, n_1, n_2, n_3, n_4, n_5, reduceCtorEq, reduceIte, e0]))
  refine callM_of (rbits s h0 hs) ?_
  rintro v h1 ⟨⟨i0, hi0, o0⟩, hk⟩
  have hk1 := hk.1
  have hk2 := hk.2
  refine vI ?_; repeat' (first
      | with_reducible first | refine Nx.h ?_ | (refine hK _ _ ?_; clear hK K)
      | ((with_reducible refine q_eo ?_ ?_); exact rfl)
      | ((with_reducible first | refine vO ?_ | (refine Ny.h ?_; intro K hK) | (refine c_drw (by decide +kernel) ?_; intro K hK) | refine c_cond ?_ | show endW _ _ _ _ _ | (refine Nz.h ?_ ?_ <;> intro _) | fail) <;> try simp (disch := first | exact dz | fail) only [go_sem, i_0, i_1, i_2, i_3, i_4, i_5, i_6, i_7, i_8, n_0, n_1, n_2, n_3, n_4, n_5, reduceCtorEq, reduceIte, e0]))
  generalize hA : allBits s = A at *
  refine c_loopF 130056 (fun m tm h => ∃ (j : Nat) (a : AV) (i : Nat), tm.get 3 = a ∧ Ow E8 h i a (b01 (A ++ ones j)) ∧ h0.size ≤ i ∧ h0.size ≤ h.size ∧ (∀ b, b < h0.size → h.get b = h0.get b) ∧ j ≤ (8 - A.length % 8) % 8 ∧ m = 8 - j) (8) (by kernel_rfl) ?_ ?_
  · refine ⟨0, v, i0, ?_, ?_, hi0, hk1, hk2, by omega, rfl⟩
    · (first | with_reducible rfl | (simp (disch := first | exact dz | fail) only [go_sem, i_0, i_1, i_2, i_3, i_4, i_5, i_6, i_7, i_8, n_0, n_1, n_2, n_3, n_4, n_5, reduceCtorEq, reduceIte] <;> first | with_reducible rfl | (congr 1 <;> omega)))
    · simpa [ones] using o0
  · rintro m tr2 h2 ho ⟨j, a, i, t3, oa, hi, hz, hf, hj, rfl⟩
    have sa := oa.sl
    have hbl := b01_len (A ++ ones j)
    rw [List.length_append, show (ones j).length = j by simp [ones]] at hbl
    by_cases hjj : j < (8 - A.length % 8) % 8
    · repeat' (first
      | with_reducible first | refine Nx.h ?_ | (refine hK _ _ ?_; clear hK K)
      | ((with_reducible refine q_eo ?_ ?_); exact rfl)
      | ((with_reducible first | (refine Ny.h ?_; intro K hK) | (refine c_drw (by decide +kernel) ?_; intro K hK) | refine c_cond ?_ | show endW _ _ _ _ _ | (refine Nz.h ?_ ?_ <;> intro _) | fail) <;> try simp (disch := first | exact dz | fail) only [go_sem, i_0, i_1, i_2, i_3, i_4, i_5, i_6, i_7, i_8, n_0, n_1, n_2, n_3, n_4, n_5, reduceCtorEq, reduceIte, t3]))
      refine Try.a833 oa (by omega) (by omega) (by omega) fun z h7 i7 ho7 hi7 hz7 hf7 => ?_
      refine vI ?_; repeat' (first
      | with_reducible first | refine Nx.h ?_ | (refine hK _ _ ?_; clear hK K)
      | ((with_reducible refine q_eo ?_ ?_); exact rfl)
      | ((with_reducible first | refine vO ?_ | (refine Ny.h ?_; intro K hK) | (refine c_drw (by decide +kernel) ?_; intro K hK) | refine c_cond ?_ | show endW _ _ _ _ _ | (refine Nz.h ?_ ?_ <;> intro _) | fail) <;> try simp (disch := first | exact dz | fail) only [go_sem, i_0, i_1, i_2, i_3, i_4, i_5, i_6, i_7, i_8, n_0, n_1, n_2, n_3, n_4, n_5, reduceCtorEq, reduceIte, t3]))
      try dsimp only
      refine ⟨rfl, _, ?_, j + 1, z, i7, ?_, ?_, by omega, by omega, fun b hb => (hf7 b (by omega) (by omega)).trans (hf b hb), by omega, rfl⟩
      · omega
      · (first | with_reducible rfl | (simp (disch := first | exact dz | fail) only [go_sem, i_0, i_1, i_2, i_3, i_4, i_5, i_6, i_7, i_8, n_0, n_1, n_2, n_3, n_4, n_5, reduceCtorEq, reduceIte] <;> first | with_reducible rfl | (congr 1 <;> omega)))
      · rw [ones_succ, ← List.append_assoc, b01_app]; exact ho7
    · have hje : j = (8 - A.length % 8) % 8 := by omega
      have hP : A ++ ones j = padded A := by rw [hje]; rfl
      have hPl : (padded A).length % 8 = 0 := by rw [← hP, List.length_append, show (ones j).length = j by simp [ones]]; omega
      rw [hP] at oa sa
      have hbP := b01_len (padded A)
      have hPB : (padded A).length ≤ 4000000 := by rw [← hbP, ← hP]; omega
      generalize hPQ : padded A = Q at *
      have hilt2 : 0 < Q.length → i < h2.size := fun hq => oa.lt (by intro e; have := congrArg List.length e; rw [hbP] at this; simp at this; rw [this] at hq; simp at hq)
      have e256 : (2 : Nat) ^ 8 = 256 := by decide
      repeat' (first
      | with_reducible first | refine Nx.h ?_ | (refine hK _ _ ?_; clear hK K)
      | ((with_reducible refine q_eo ?_ ?_); exact rfl)
      | ((with_reducible first | (refine Ny.h ?_; intro K hK) | (refine c_drw (by decide +kernel) ?_; intro K hK) | refine c_cond ?_ | show endW _ _ _ _ _ | (refine Nz.h ?_ ?_ <;> intro _) | fail) <;> try simp (disch := first | exact dz | fail) only [go_sem, i_0, i_1, i_2, i_3, i_4, i_5, i_6, i_7, i_8, n_0, n_1, n_2, n_3, n_4, n_5, reduceCtorEq, reduceIte, t3]))
      refine c_loopF 4398046380272 (fun m tm h => ∃ (k : Nat) (b : AV) (ib : Nat), tm.get 5 = .int .i64 (8 * k) ∧ tm.get 4 = b ∧ Ow E8 h ib b (pack (Q.take (8 * k))) ∧ Ow E8 h i a (b01 Q) ∧ h2.size ≤ ib ∧ h2.size ≤ h.size ∧ (∀ b, b < h2.size → h.get b = h2.get b) ∧ 8 * k ≤ Q.length ∧ m = Q.length - 8 * k) (Q.length) (by kernel_rfl) ?_ ?_
      · refine ⟨0, .slice none 0 0 0 true, h2.size, ?_, ?_, ?_, oa, Nat.le_refl _, Nat.le_refl _, fun _ _ => rfl, by omega, rfl⟩
        · (first | with_reducible rfl | (simp (disch := first | exact dz | fail) only [go_sem, i_0, i_1, i_2, i_3, i_4, i_5, i_6, i_7, i_8, n_0, n_1, n_2, n_3, n_4, n_5, reduceCtorEq, reduceIte] <;> first | with_reducible rfl | (congr 1 <;> omega)))
        · (first | with_reducible rfl | (simp (disch := first | exact dz | fail) only [go_sem, i_0, i_1, i_2, i_3, i_4, i_5, i_6, i_7, i_8, n_0, n_1, n_2, n_3, n_4, n_5, reduceCtorEq, reduceIte] <;> first | with_reducible rfl | (congr 1 <;> omega)))
        · simp only [Nat.mul_zero, List.take_zero]
          rw [pack_short (l := []) (by decide)]; exact .nil0 _ _
      · rintro m tr3 h3 ho3 ⟨k, b, ib, t5, t4, ob, oa, hib, hz3, hf3, hk8, rfl⟩
        have k3 := ho3 3 (Seen.of rfl); simp (disch := first | exact dz | fail) only [go_sem, i_0, i_1, i_2, i_3, i_4, i_5, i_6, i_7, i_8, n_0, n_1, n_2, n_3, n_4, n_5, reduceCtorEq, reduceIte, t3] at k3
        have sa := oa.sl
        have sb := ob.sl
        by_cases hkk : 8 * k < Q.length
        · repeat' (first
      | with_reducible first | refine Nx.h ?_ | (refine hK _ _ ?_; clear hK K)
      | ((with_reducible refine q_eo ?_ ?_); exact rfl)
      | ((with_reducible first | (refine Ny.h ?_; intro K hK) | (refine c_drw (by decide +kernel) ?_; intro K hK) | refine c_cond ?_ | show endW _ _ _ _ _ | (refine Nz.h ?_ ?_ <;> intro _) | fail) <;> try simp (disch := first | exact dz | fail) only [go_sem, i_0, i_1, i_2, i_3, i_4, i_5, i_6, i_7, i_8, n_0, n_1, n_2, n_3, n_4, n_5, reduceCtorEq, reduceIte, t5, t4, k3]))
          have hC : ((Q.drop (8 * k)).take 8).length = 8 := by rw [List.length_take, List.length_drop]; omega
          refine c_loopF 137430565056 (fun m tm h => ∃ (j : Nat), tm.get 7 = .int .i64 j ∧ tm.get 6 = .int .i64 (val (((Q.drop (8 * k)).take 8).take j)) ∧ h = h3 ∧ j ≤ 8 ∧ m = 8 - j) (8) (by kernel_rfl) ?_ ?_
          · refine ⟨0, ?_, ?_, rfl, by omega, rfl⟩ <;> (first | with_reducible rfl | (simp (disch := first | exact dz | fail) only [go_sem, i_0, i_1, i_2, i_3, i_4, i_5, i_6, i_7, i_8, n_0, n_1, n_2, n_3, n_4, n_5, reduceCtorEq, reduceIte, List.take_zero, val] <;> first | with_reducible rfl | (congr 1 <;> omega)))
          · rintro m tr4 h4 ho4 ⟨j, t7, t6, rfl, hj8, rfl⟩
            have q3 := ho4 3 (Seen.of rfl); simp (disch := first | exact dz | fail) only [go_sem, i_0, i_1, i_2, i_3, i_4, i_5, i_6, i_7, i_8, n_0, n_1, n_2, n_3, n_4, n_5, reduceCtorEq, reduceIte, k3, t4, t5] at q3; have q4 := ho4 4 (Seen.of rfl); simp (disch := first | exact dz | fail) only [go_sem, i_0, i_1, i_2, i_3, i_4, i_5, i_6, i_7, i_8, n_0, n_1, n_2, n_3, n_4, n_5, reduceCtorEq, reduceIte, k3, t4, t5] at q4; have q5 := ho4 5 (Seen.of rfl); simp (disch := first | exact dz | fail) only [go_sem, i_0, i_1, i_2, i_3, i_4, i_5, i_6, i_7, i_8, n_0, n_1, n_2, n_3, n_4, n_5, reduceCtorEq, reduceIte, k3, t4, t5] at q5
            have hvl := val_lt (((Q.drop (8 * k)).take 8).take j)
            have hpl : (2 : Nat) ^ (((Q.drop (8 * k)).take 8).take j).length ≤ 2 ^ 8 := Nat.pow_le_pow_right (by decide) (by rw [List.length_take]; omega)
            by_cases hj : j < 8
            · have hat : (8 * (k : Int) + (j : Int)).toNat = 8 * k + j := by omega
              have hb1 := b01_at (l := Q) (j := 8 * k + j) (by omega)
              have htk : ((Q.drop (8 * k)).take 8).take (j + 1) = ((Q.drop (8 * k)).take 8).take j ++ [Q[8 * k + j]!] := by
                rw [List.take_add_one, List.getElem?_take, if_pos hj, List.getElem?_drop, List.getElem?_eq_getElem (by omega), getElem!_pos Q (8 * k + j) (by omega)]; rfl
              have hvs := val_snoc (((Q.drop (8 * k)).take 8).take j) (Q[8 * k + j]!)
              rw [← htk] at hvs
              have hbn : (Q[8 * k + j]!).toNat ≤ 1 := by cases Q[8 * k + j]! <;> decide
              repeat' (first
      | with_reducible first | refine Nx.h ?_ | (refine hK _ _ ?_; clear hK K)
      | ((with_reducible refine q_eo ?_ ?_); exact rfl)
      | ((with_reducible first | (refine Ny.h ?_; intro K hK) | (refine c_drw (by decide +kernel) ?_; intro K hK) | refine c_cond ?_ | show endW _ _ _ _ _ | (refine Nz.h ?_ ?_ <;> intro _) | fail) <;> try simp (disch := first | exact dz | fail) only [go_sem, i_0, i_1, i_2, i_3, i_4, i_5, i_6, i_7, i_8, n_0, n_1, n_2, n_3, n_4, n_5, reduceCtorEq, reduceIte, t7, t6, q3, q4, q5, hat, hb1]))
              try dsimp only
              refine ⟨rfl, _, ?_, j + 1, ?_, ?_, rfl, by omega, rfl⟩
              · omega
              · (first | with_reducible rfl | (simp (disch := first | exact dz | fail) only [go_sem, i_0, i_1, i_2, i_3, i_4, i_5, i_6, i_7, i_8, n_0, n_1, n_2, n_3, n_4, n_5, reduceCtorEq, reduceIte, t7] <;> first | with_reducible rfl | (congr 1 <;> omega)))
              · (first | with_reducible rfl | (simp (disch := first | exact dz | fail) only [go_sem, i_0, i_1, i_2, i_3, i_4, i_5, i_6, i_7, i_8, n_0, n_1, n_2, n_3, n_4, n_5, reduceCtorEq, reduceIte, t6] <;> first | with_reducible rfl | (congr 1 <;> omega)))
            · have : j = 8 := by omega
              subst this
              have e8 : ((Q.drop (8 * k)).take 8).take 8 = (Q.drop (8 * k)).take 8 := List.take_of_length_le (by omega)
              rw [e8] at t6 hvl hpl
              have hvl2 := val_lt ((Q.drop (8 * k)).take 8)
              rw [hC] at hvl2
              have hpq := pack_len (Q.take (8 * k))
              rw [List.length_take] at hpq
              have eT : Q.take (8 * (k + 1)) = Q.take (8 * k) ++ (Q.drop (8 * k)).take 8 := by
                rw [show 8 * (k + 1) = 8 * k + 8 by omega, List.take_add]
              have hp : pack (Q.take (8 * (k + 1))) = pack (Q.take (8 * k)) ++ [UInt8.ofNat (val ((Q.drop (8 * k)).take 8))] := by
                rw [eT, pack_append _ _ (by rw [List.length_take]; omega)]
                congr 1
                rw [pack, if_pos (by omega), pack_short (by rw [List.length_drop]; omega), List.take_of_length_le (by omega)]
              have hmv : ((val ((Q.drop (8 * k)).take 8) : Int) % 256) = (val ((Q.drop (8 * k)).take 8) : Nat) := by
                have : (2 : Nat) ^ 8 = 256 := by decide
                omega
              repeat' (first
      | with_reducible first | refine Nx.h ?_ | (refine hK _ _ ?_; clear hK K)
      | ((with_reducible refine q_eo ?_ ?_); exact rfl)
      | ((with_reducible first | (refine Ny.h ?_; intro K hK) | (refine c_drw (by decide +kernel) ?_; intro K hK) | refine c_cond ?_ | show endW _ _ _ _ _ | (refine Nz.h ?_ ?_ <;> intro _) | fail) <;> try simp (disch := first | exact dz | fail) only [go_sem, i_0, i_1, i_2, i_3, i_4, i_5, i_6, i_7, i_8, n_0, n_1, n_2, n_3, n_4, n_5, reduceCtorEq, reduceIte, t7, t6, q3, q4, q5, hmv]))
              refine Try.a833 ob (by omega) (by omega) (by omega) fun z h7 i7 ho7 hi7 hz7 hf7 => ?_
              refine vI ?_; repeat' (first
      | with_reducible first | refine Nx.h ?_ | (refine hK _ _ ?_; clear hK K)
      | ((with_reducible refine q_eo ?_ ?_); exact rfl)
      | ((with_reducible first | refine vO ?_ | (refine Ny.h ?_; intro K hK) | (refine c_drw (by decide +kernel) ?_; intro K hK) | refine c_cond ?_ | show endW _ _ _ _ _ | (refine Nz.h ?_ ?_ <;> intro _) | fail) <;> try simp (disch := first | exact dz | fail) only [go_sem, i_0, i_1, i_2, i_3, i_4, i_5, i_6, i_7, i_8, n_0, n_1, n_2, n_3, n_4, n_5, reduceCtorEq, reduceIte, t7, t6, q3, q4, q5]))
              try dsimp only
              have hilt := hilt2 (by omega)
              refine ⟨rfl, _, ?_, k + 1, z, i7, ?_, ?_, by rw [hp]; exact ho7, oa.frame (fun hb => hf7 _ hb (by omega)) (by omega), by omega, by omega, fun b hb => (hf7 b (by omega) (by omega)).trans (hf3 b hb), by omega, rfl⟩
              · omega
              · (first | with_reducible rfl | (simp (disch := first | exact dz | fail) only [go_sem, i_0, i_1, i_2, i_3, i_4, i_5, i_6, i_7, i_8, n_0, n_1, n_2, n_3, n_4, n_5, reduceCtorEq, reduceIte, q5] <;> first | with_reducible rfl | (congr 1 <;> omega)))
              · (first | with_reducible rfl | (simp (disch := first | exact dz | fail) only [go_sem, i_0, i_1, i_2, i_3, i_4, i_5, i_6, i_7, i_8, n_0, n_1, n_2, n_3, n_4, n_5, reduceCtorEq, reduceIte] <;> first | with_reducible rfl | (congr 1 <;> omega)))
        · have : Q.take (8 * k) = Q := List.take_of_length_le (by omega)
          rw [this] at ob
          repeat' (first
      | with_reducible first | refine Nx.h ?_ | (refine hK _ _ ?_; clear hK K)
      | ((with_reducible refine q_eo ?_ ?_); exact rfl)
      | ((with_reducible first | (refine Ny.h ?_; intro K hK) | (refine c_drw (by decide +kernel) ?_; intro K hK) | refine c_cond ?_ | show endW _ _ _ _ _ | (refine Nz.h ?_ ?_ <;> intro _) | fail) <;> try simp (disch := first | exact dz | fail) only [go_sem, i_0, i_1, i_2, i_3, i_4, i_5, i_6, i_7, i_8, n_0, n_1, n_2, n_3, n_4, n_5, reduceCtorEq, reduceIte, t5, t4, k3]))
          refine ⟨⟨ib, by omega, ?_⟩, by omega, fun b hb => (hf3 b (by omega)).trans (hf b hb)⟩
          have : putB s = pack Q := by unfold putB; rw [hA, hPQ]
          rw [this]; exact ob
end Go.Proofs.Ytmpeofjfagdgkaa
