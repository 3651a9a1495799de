/- huff.Put: what it gives for every text. -/
import Derived.Test.YtmpeofjfagdgkaaHufBits
set_option linter.unusedSimpArgs false
set_option linter.unusedVariables false
namespace Go.Proofs.Ytmpeofjfagdgkaa
open Go.Abs
open Int renaming reduceEq → i_0, reduceLE → i_1, reduceLT → i_2, reduceNe → i_3, reduceNeg → i_4, reduceAdd → i_5, reduceSub → i_6, reduceMul → i_7, reduceToNat → i_8
open Nat renaming reduceLT → n_0, reduceLeDiff → n_1, reduceEqDiff → n_2, reduceAdd → n_3, reduceSub → n_4, reduceMul → n_5
set_option maxRecDepth 100000
theorem pad_or : ∀ b : Nat, b < 8 → ∀ v : Nat, v < 2 ^ b → 0 < b → orI .u8 (((v : Int) * 2 ^ (8 - (b : Int)).toNat) % 256) ((shlI .u8 1 (8 - (b : Int)) - 1) % 256) = (v : Int) * 2 ^ (8 - b) + (2 ^ (8 - b) - 1) := by decide +kernel
theorem split3 (R : List Bool) (j : Nat) (h : 8 * j + 8 ≤ R.length) : UInt8.ofNat (((val R : Int) / 2 ^ (((R.length - 8 * j : Nat) : Int) - 8).toNat) % 256).toNat = UInt8.ofNat (val ((R.drop (8 * j)).take 8)) ∧ pack (R.take (8 * (j + 1))) = pack (R.take (8 * j)) ++ [UInt8.ofNat (val ((R.drop (8 * j)).take 8))] := by
  have e0 : R = R.take (8 * j) ++ ((R.drop (8 * j)).take 8 ++ R.drop (8 * j + 8)) := by
    rw [← List.drop_drop, List.take_append_drop, List.take_append_drop]
  have hA : (R.take (8 * j)).length = 8 * j := by rw [List.length_take]; omega
  have hC : ((R.drop (8 * j)).take 8).length = 8 := by rw [List.length_take, List.length_drop]; omega
  have hD : (R.drop (8 * j + 8)).length = R.length - 8 * j - 8 := by rw [List.length_drop]; omega
  have eT : R.take (8 * (j + 1)) = R.take (8 * j) ++ (R.drop (8 * j)).take 8 := by
    rw [show 8 * (j + 1) = 8 * j + 8 by omega, List.take_add]
  constructor
  · have hx : (((R.length - 8 * j : Nat) : Int) - 8).toNat = (R.drop (8 * j + 8)).length := by omega
    have hv : val R = val (R.take (8 * j) ++ (R.drop (8 * j)).take 8) * 2 ^ (R.drop (8 * j + 8)).length + val (R.drop (8 * j + 8)) := by
      conv => lhs; rw [e0, ← List.append_assoc, val_append]
    have hlt := val_lt (R.drop (8 * j + 8))
    have hlc := val_lt ((R.drop (8 * j)).take 8)
    rw [hC] at hlc
    rw [hx]
    congr 1
    have e1 : ((val R : Int) / 2 ^ (R.drop (8 * j + 8)).length) = ((val R / 2 ^ (R.drop (8 * j + 8)).length : Nat) : Int) := by push_cast; rfl
    have e2 : val R / 2 ^ (R.drop (8 * j + 8)).length = val (R.take (8 * j) ++ (R.drop (8 * j)).take 8) := by
      rw [hv, Nat.mul_comm, Nat.mul_add_div (Nat.pos_of_ne_zero (by simp)), Nat.div_eq_of_lt hlt, Nat.add_zero]
    rw [e1, e2, val_append, hC]
    have : (2 : Nat) ^ 8 = 256 := by decide
    omega
  · rw [eT, pack_append _ _ (by rw [hA]; omega)]
    congr 1
    rw [pack, if_pos (by omega), pack_short (by rw [List.length_drop]; omega), List.take_of_length_le (by omega)]
set_option maxHeartbeats 4000000 in
theorem hput (s : List UInt8) (h0 : AH) (hs : s.length ≤ 100000) : callW Try.prog Try.T 48 [.str s] h0 (NewB h0 (putB s)) := by
  refine callW_in (n := 72) (rs := [.tmp 2]) (m := 72) Try.func48 rfl rfl rfl rfl fun tr ht => ?_; have e0 := ht 0 _ rfl; clear ht
  repeat' (first
      | with_reducible first | refine Nx.h ?_ | (refine hK _ _ ?_; clear hK K)
      | ((with_reducible refine q_eo ?_ ?_); exact rfl)
      | ((with_reducible first | (refine Ny.h ?_; intro K hK) | (refine c_drw (by decide +kernel) ?_; intro K hK) | refine c_cond ?_ | show endW _ _ _ _ _ | (refine Nz.h ?_ ?_ <;> intro _) | fail) <;> try simp (disch := first | exact dz | fail) only [go_sem, i_0, i_1, i_2, i_3, i_4, i_5, i_6, i_7, i_8, n_0, n_1, n_2, n_3, n_4, n_5, reduceCtorEq, reduceIte, e0]))
  · rename_i hc
    subst hc
    rw [putB_nil]
    exact ⟨⟨h0.size, Nat.le_refl _, .nil0 _ _⟩, Keeps.refl _ _⟩
  · refine callM_of (codes h0) ?_
    rintro v h1 ⟨⟨ic, hic, oc⟩, hk⟩
    have hclen := ctab_len
    have hiclt : ic < h1.size := oc.lt (by intro e; rw [e] at hclen; simp at hclen)
    refine vI ?_; repeat' (first
      | with_reducible first | refine Nx.h ?_ | (refine hK _ _ ?_; clear hK K)
      | ((with_reducible refine q_eo ?_ ?_); exact rfl)
      | ((with_reducible first | refine vO ?_ | (refine Ny.h ?_; intro K hK) | (refine c_drw (by decide +kernel) ?_; intro K hK) | refine c_cond ?_ | show endW _ _ _ _ _ | (refine Nz.h ?_ ?_ <;> intro _) | fail) <;> try simp (disch := first | exact dz | fail) only [go_sem, i_0, i_1, i_2, i_3, i_4, i_5, i_6, i_7, i_8, n_0, n_1, n_2, n_3, n_4, n_5, reduceCtorEq, reduceIte, e0]))
    refine callM_of (length v ic s h1 oc.sl hs) ?_
    rintro w h2 ⟨rfl, rfl⟩
    have hbl := bitsLen_le s
    have hk1 := hk.2
    have hk0' := hk.1
    obtain ⟨a, h3, e3, o3, z3, f3⟩ := make_ow (h := h2) (T := Try.T) (E := E8) (t := 33) (k := .i64) (k' := .i64) (n := 0) (m := (bitsLen s + 7) / 8) 0 rfl rfl rfl rfl (by decide) (by omega) (by show 1 * _ ≤ _; omega) (by omega)
    refine vI ?_; repeat' (first
      | with_reducible first | refine Nx.h ?_ | (refine hK _ _ ?_; clear hK K)
      | ((with_reducible refine q_eo ?_ ?_); exact rfl)
      | ((with_reducible first | refine vO ?_ | (refine Ny.h ?_; intro K hK) | (refine c_drw (by decide +kernel) ?_; intro K hK) | refine c_cond ?_ | show endW _ _ _ _ _ | (refine Nz.h ?_ ?_ <;> intro _) | fail) <;> try simp (disch := first | exact dz | fail) only [go_sem, i_0, i_1, i_2, i_3, i_4, i_5, i_6, i_7, i_8, n_0, n_1, n_2, n_3, n_4, n_5, reduceCtorEq, reduceIte, e0, e3]))
    have oc3 := oc.frame (h' := h3) (fun hb => f3 _ hb) (by omega)
    refine c_loopF 72057594037666288 (fun m tm h => ∃ (k : Nat) (R F : List Bool) (a : AV) (i : Nat), tm.get 18 = .int .i64 k ∧ tm.get 5 = .int .i64 (val R) ∧ tm.get 6 = .int .i64 R.length ∧ tm.get 4 = a ∧ Ow E8 h i a (pack F) ∧ Ow EC h ic v ctab ∧ h2.size ≤ i ∧ h2.size ≤ h.size ∧ (∀ b, b < h2.size → h.get b = h2.get b) ∧ allBits (s.take k) = F ++ R ∧ F.length % 8 = 0 ∧ R.length < 8 ∧ k ≤ s.length ∧ m = s.length - k) (s.length) (by kernel_rfl) ?_ ?_
    · refine ⟨0, [], [], a, h2.size, ?_, ?_, ?_, ?_, by rw [pack_short (by decide)]; exact o3, oc3, Nat.le_refl _, by omega, f3, rfl, rfl, by decide, by omega, rfl⟩ <;> (first | with_reducible rfl | (simp (disch := first | exact dz | fail) only [go_sem, i_0, i_1, i_2, i_3, i_4, i_5, i_6, i_7, i_8, n_0, n_1, n_2, n_3, n_4, n_5, reduceCtorEq, reduceIte] <;> first | with_reducible rfl | (congr 1 <;> omega)))
    · rintro m tr2 h4 ho ⟨k, R, F, a, i, t18, t5, t6, t4, oa, oc, hi, hz, hf, hb, hF, hR, hk, rfl⟩
      have k0 := ho 0 (Seen.of rfl); simp (disch := first | exact dz | fail) only [go_sem, i_0, i_1, i_2, i_3, i_4, i_5, i_6, i_7, i_8, n_0, n_1, n_2, n_3, n_4, n_5, reduceCtorEq, reduceIte, e0, e3] at k0; have k3 := ho 3 (Seen.of rfl); simp (disch := first | exact dz | fail) only [go_sem, i_0, i_1, i_2, i_3, i_4, i_5, i_6, i_7, i_8, n_0, n_1, n_2, n_3, n_4, n_5, reduceCtorEq, reduceIte, e0, e3] at k3; have k17 := ho 17 (Seen.of rfl); simp (disch := first | exact dz | fail) only [go_sem, i_0, i_1, i_2, i_3, i_4, i_5, i_6, i_7, i_8, n_0, n_1, n_2, n_3, n_4, n_5, reduceCtorEq, reduceIte, e0, e3] at k17
      have sc := oc.sl
      by_cases hks : k < s.length
      · have hbt := allBits_take hks
        generalize hc : s[k]! = c at *
        have hc2 := c.toNat_lt
        have hcl := codeBits_len (c := c.toNat) (by omega)
        have hcv := codeBits_val (c := c.toNat) (by omega)
        have hco := ctab_ok c.toNat (by omega)
        have hld : loadA Try.T h4 95 (v.at EC.sz 0 (c.toNat : Int)) = some (.agg [.int .i64 (ctab[c.toNat]!).1, .int .i64 (ctab[c.toNat]!).2]) := by
          have := Sl.ldn (T := Try.T) (t := 95) (j := (c.toNat : Int)) sc (by omega) (by omega) rfl rfl rfl
          rw [this, Int.toNat_natCast]; rfl
        generalize hcc : ctab[c.toNat]! = cc at *
        obtain ⟨cn, cw⟩ := cc
        simp only at hco hcl hcv
        generalize hCB : codeBits c.toNat = C at *
        have hRv := val_lt R
        have hCv := val_lt C
        have hRp : (2 : Nat) ^ R.length ≤ 2 ^ 7 := Nat.pow_le_pow_right (by decide) (by omega)
        have hCp : (2 : Nat) ^ C.length ≤ 2 ^ 30 := Nat.pow_le_pow_right (by decide) (by omega)
        have hCn : cn.toNat = C.length := by omega
        have hmulN : val R * 2 ^ C.length ≤ 2 ^ 7 * 2 ^ 30 := Nat.mul_le_mul (by omega) hCp
        have hva := val_append R C
        have hc1 : ((val R : Int) * 2 ^ cn.toNat) = ((val R * 2 ^ C.length : Nat) : Int) := by rw [hCn]; push_cast; rfl
        have hshl : shlI .i64 (val R) cn = ((val R * 2 ^ C.length : Nat) : Int) := by
          rw [shl_i64 (by omega) (by rw [hc1]; omega) (by rw [hc1]; omega), hc1]
        have hor : orI .i64 ((val R * 2 ^ C.length : Nat) : Int) cw = ((val (R ++ C) : Nat) : Int) := by
          rw [← hcv, or_nn (by simp [IntKind.bits]; omega) (by simp [IntKind.bits]; omega), hva]
          congr 1
          have := Nat.two_pow_add_eq_or_of_lt hCv (val R)
          rw [Nat.mul_comm, ← this]
        have hlen : (R.length : Int) + cn = ((R ++ C).length : Nat) := by rw [List.length_append]; omega
        have hRC : (R ++ C).length ≤ 37 := by rw [List.length_append]; omega
        have hW := val_lt (R ++ C)
        have hWp : (2 : Nat) ^ (R ++ C).length ≤ 2 ^ 37 := Nat.pow_le_pow_right (by decide) (by omega)
        repeat' (first
      | with_reducible first | refine Nx.h ?_ | (refine hK _ _ ?_; clear hK K)
      | ((with_reducible refine q_eo ?_ ?_); exact rfl)
      | ((with_reducible first | (refine Ny.h ?_; intro K hK) | (refine c_drw (by decide +kernel) ?_; intro K hK) | refine c_cond ?_ | show endW _ _ _ _ _ | (refine Nz.h ?_ ?_ <;> intro _) | fail) <;> try simp (disch := first | exact dz | fail) only [go_sem, i_0, i_1, i_2, i_3, i_4, i_5, i_6, i_7, i_8, n_0, n_1, n_2, n_3, n_4, n_5, reduceCtorEq, reduceIte, t18, t5, t6, k0, k3, k17, hc, hld, hshl, hor, hlen]))
        generalize hQ : R ++ C = Q at *
        refine c_hide fun h5 hh5 => ?_
        have z5 : h5.size = h4.size + 1 := by rw [hh5]; simp (disch := first | exact dz | fail) only [go_sem, i_0, i_1, i_2, i_3, i_4, i_5, i_6, i_7, i_8, n_0, n_1, n_2, n_3, n_4, n_5, reduceCtorEq, reduceIte]
        have f5 : ∀ b, b < h4.size → h5.get b = h4.get b := by intro b hb; rw [hh5]; simp (disch := first | exact dz | fail) only [go_sem, i_0, i_1, i_2, i_3, i_4, i_5, i_6, i_7, i_8, n_0, n_1, n_2, n_3, n_4, n_5, reduceCtorEq, reduceIte]
        have oa5 := oa.frame (fun hb => f5 _ hb) (by omega)
        have oc5 := oc.frame (fun hb => f5 _ hb) (by omega)
        clear hh5
        have hpk : ∀ j, pack (F ++ Q.take j) = pack F ++ pack (Q.take j) := fun j => pack_append _ _ hF
        refine c_loopF 1125625028935760 (fun m tm h => ∃ (j : Nat) (a : AV) (i : Nat), tm.get 6 = .int .i64 ((Q.length - 8 * j : Nat) : Int) ∧ tm.get 4 = a ∧ Ow E8 h i a (pack F ++ pack (Q.take (8 * j))) ∧ Ow EC h ic v ctab ∧ h2.size ≤ i ∧ h2.size ≤ h.size ∧ (∀ b, b < h2.size → h.get b = h2.get b) ∧ 8 * j ≤ Q.length ∧ m = Q.length - 8 * j) (Q.length) (by kernel_rfl) ?_ ?_
        · refine ⟨0, a, i, ?_, ?_, ?_, oc5, hi, by omega, fun b hb => (f5 b (by omega)).trans (hf b hb), by omega, rfl⟩
          · (first | with_reducible rfl | (simp (disch := first | exact dz | fail) only [go_sem, i_0, i_1, i_2, i_3, i_4, i_5, i_6, i_7, i_8, n_0, n_1, n_2, n_3, n_4, n_5, reduceCtorEq, reduceIte] <;> first | with_reducible rfl | (congr 1 <;> omega)))
          · (first | with_reducible rfl | (simp (disch := first | exact dz | fail) only [go_sem, i_0, i_1, i_2, i_3, i_4, i_5, i_6, i_7, i_8, n_0, n_1, n_2, n_3, n_4, n_5, reduceCtorEq, reduceIte, t4] <;> first | with_reducible rfl | (congr 1 <;> omega)))
          · simp only [Nat.mul_zero, List.take_zero]
            rw [pack_short (l := []) (by decide), List.append_nil]; exact oa5
        · rintro m tr3 h6 ho3 ⟨j, a, i, t6, t4, oa, oc, hi, hz, hf, hj, rfl⟩
          have q0 := ho3 0 (Seen.of rfl); simp (disch := first | exact dz | fail) only [go_sem, i_0, i_1, i_2, i_3, i_4, i_5, i_6, i_7, i_8, n_0, n_1, n_2, n_3, n_4, n_5, reduceCtorEq, reduceIte, k0, k3, k17, t18] at q0; have q3 := ho3 3 (Seen.of rfl); simp (disch := first | exact dz | fail) only [go_sem, i_0, i_1, i_2, i_3, i_4, i_5, i_6, i_7, i_8, n_0, n_1, n_2, n_3, n_4, n_5, reduceCtorEq, reduceIte, k0, k3, k17, t18] at q3; have q5 := ho3 5 (Seen.of rfl); simp (disch := first | exact dz | fail) only [go_sem, i_0, i_1, i_2, i_3, i_4, i_5, i_6, i_7, i_8, n_0, n_1, n_2, n_3, n_4, n_5, reduceCtorEq, reduceIte, k0, k3, k17, t18] at q5; have q17 := ho3 17 (Seen.of rfl); simp (disch := first | exact dz | fail) only [go_sem, i_0, i_1, i_2, i_3, i_4, i_5, i_6, i_7, i_8, n_0, n_1, n_2, n_3, n_4, n_5, reduceCtorEq, reduceIte, k0, k3, k17, t18] at q17; have q18 := ho3 18 (Seen.of rfl); simp (disch := first | exact dz | fail) only [go_sem, i_0, i_1, i_2, i_3, i_4, i_5, i_6, i_7, i_8, n_0, n_1, n_2, n_3, n_4, n_5, reduceCtorEq, reduceIte, k0, k3, k17, t18] at q18
          have hpf := pack_len F
          have hpq := pack_len (Q.take (8 * j))
          have hbl2 := allBits_len (s.take k)
          have hbl3 := bitsLen_le (s.take k)
          rw [hb, List.length_append] at hbl2
          rw [List.length_take] at hbl3 hpq
          by_cases h8 : 8 * j + 8 ≤ Q.length
          · obtain ⟨sp1, sp2⟩ := split3 Q j h8
            have hx : 0 ≤ (val Q : Int) / 2 ^ (((Q.length - 8 * j : Nat) : Int) - 8).toNat := Int.ediv_nonneg (by omega) (Int.le_of_lt (Int.pow_pos (by decide)))
            have hx2 : ((val Q : Int) / 2 ^ (((Q.length - 8 * j : Nat) : Int) - 8).toNat) ≤ val Q := Int.ediv_le_self _ (by omega)
            generalize hX : (val Q : Int) / 2 ^ (((Q.length - 8 * j : Nat) : Int) - 8).toNat = X at *
            repeat' (first
      | with_reducible first | refine Nx.h ?_ | (refine hK _ _ ?_; clear hK K)
      | ((with_reducible refine q_eo ?_ ?_); exact rfl)
      | ((with_reducible first | (refine Ny.h ?_; intro K hK) | (refine c_drw (by decide +kernel) ?_; intro K hK) | refine c_cond ?_ | show endW _ _ _ _ _ | (refine Nz.h ?_ ?_ <;> intro _) | fail) <;> try simp (disch := first | exact dz | fail) only [go_sem, i_0, i_1, i_2, i_3, i_4, i_5, i_6, i_7, i_8, n_0, n_1, n_2, n_3, n_4, n_5, reduceCtorEq, reduceIte, t6, t4, q5, hX]))
            refine Try.a833 oa (by omega) (by omega) (by rw [List.length_append]; omega) fun z h7 i7 ho7 hi7 hz7 hf7 => ?_
            refine vI ?_; repeat' (first
      | with_reducible first | refine Nx.h ?_ | (refine hK _ _ ?_; clear hK K)
      | ((with_reducible refine q_eo ?_ ?_); exact rfl)
      | ((with_reducible first | refine vO ?_ | (refine Ny.h ?_; intro K hK) | (refine c_drw (by decide +kernel) ?_; intro K hK) | refine c_cond ?_ | show endW _ _ _ _ _ | (refine Nz.h ?_ ?_ <;> intro _) | fail) <;> try simp (disch := first | exact dz | fail) only [go_sem, i_0, i_1, i_2, i_3, i_4, i_5, i_6, i_7, i_8, n_0, n_1, n_2, n_3, n_4, n_5, reduceCtorEq, reduceIte, t6, t4]))
            try dsimp only
            refine ⟨rfl, _, ?_, j + 1, z, i7, ?_, ?_, ?_, oc.frame (fun hb => hf7 _ hb (by omega)) (by omega), by omega, by omega, fun b hb => (hf7 b (by omega) (by omega)).trans (hf b hb), by omega, rfl⟩
            · omega
            · (first | with_reducible rfl | (simp (disch := first | exact dz | fail) only [go_sem, i_0, i_1, i_2, i_3, i_4, i_5, i_6, i_7, i_8, n_0, n_1, n_2, n_3, n_4, n_5, reduceCtorEq, reduceIte, t6] <;> first | with_reducible rfl | (congr 1 <;> omega)))
            · (first | with_reducible rfl | (simp (disch := first | exact dz | fail) only [go_sem, i_0, i_1, i_2, i_3, i_4, i_5, i_6, i_7, i_8, n_0, n_1, n_2, n_3, n_4, n_5, reduceCtorEq, reduceIte, t6] <;> first | with_reducible rfl | (congr 1 <;> omega)))
            · rw [sp2, ← List.append_assoc, ← sp1]; exact ho7
          · have hrest : (Q.drop (8 * j)).length = Q.length - 8 * j := by rw [List.length_drop]
            have hmod : (val Q : Int) % 2 ^ (Q.length - 8 * j) = val (Q.drop (8 * j)) := by
              have e : val Q = val (Q.take (8 * j)) * 2 ^ (Q.length - 8 * j) + val (Q.drop (8 * j)) := by
                conv => lhs; rw [← List.take_append_drop (8 * j) Q, val_append, hrest]
              have hlt := val_lt (Q.drop (8 * j))
              rw [hrest] at hlt
              rw [e]; push_cast
              rw [Int.mul_comm, Int.mul_add_emod_self_left]
              exact Int.emod_eq_of_lt (by omega) (by exact_mod_cast hlt)
            have hand := and_low (x := (val Q : Int)) (b := Q.length - 8 * j) (by omega) (by omega) (by omega)
            rw [hmod] at hand
            have hpp := pow_mono2 (a := Q.length - 8 * j) (b := 7) (by omega)
            have hp0 : (0 : Int) < 2 ^ (Q.length - 8 * j) := Int.pow_pos (by decide)
            have hsh : shlI .i64 1 ((Q.length - 8 * j : Nat) : Int) = 2 ^ (Q.length - 8 * j) := by
              rw [shl_i64 (by omega) (by rw [Int.toNat_natCast]; omega) (by rw [Int.toNat_natCast]; omega), Int.toNat_natCast]; omega
            have e27 : (2 : Int) ^ 7 = 128 := by decide
            repeat' (first
      | with_reducible first | refine Nx.h ?_ | (refine hK _ _ ?_; clear hK K)
      | ((with_reducible refine q_eo ?_ ?_); exact rfl)
      | ((with_reducible first | (refine Ny.h ?_; intro K hK) | (refine c_drw (by decide +kernel) ?_; intro K hK) | refine c_cond ?_ | show endW _ _ _ _ _ | (refine Nz.h ?_ ?_ <;> intro _) | fail) <;> try simp (disch := first | exact dz | fail) only [go_sem, i_0, i_1, i_2, i_3, i_4, i_5, i_6, i_7, i_8, n_0, n_1, n_2, n_3, n_4, n_5, reduceCtorEq, reduceIte, t6, t4, q5, q18, hsh, hand]))
            try dsimp only
            refine ⟨rfl, _, ?_, k + 1, Q.drop (8 * j), F ++ Q.take (8 * j), a, i, ?_, ?_, ?_, ?_, ?_, oc, hi, hz, hf, ?_, ?_, by rw [hrest]; omega, by omega, rfl⟩
            · omega
            · (first | with_reducible rfl | (simp (disch := first | exact dz | fail) only [go_sem, i_0, i_1, i_2, i_3, i_4, i_5, i_6, i_7, i_8, n_0, n_1, n_2, n_3, n_4, n_5, reduceCtorEq, reduceIte, q18] <;> first | with_reducible rfl | (congr 1 <;> omega)))
            · (first | with_reducible rfl | (simp (disch := first | exact dz | fail) only [go_sem, i_0, i_1, i_2, i_3, i_4, i_5, i_6, i_7, i_8, n_0, n_1, n_2, n_3, n_4, n_5, reduceCtorEq, reduceIte, q5] <;> first | with_reducible rfl | (congr 1 <;> omega)))
            · rw [hrest]; (first | with_reducible rfl | (simp (disch := first | exact dz | fail) only [go_sem, i_0, i_1, i_2, i_3, i_4, i_5, i_6, i_7, i_8, n_0, n_1, n_2, n_3, n_4, n_5, reduceCtorEq, reduceIte, t6] <;> first | with_reducible rfl | (congr 1 <;> omega)))
            · (first | with_reducible rfl | (simp (disch := first | exact dz | fail) only [go_sem, i_0, i_1, i_2, i_3, i_4, i_5, i_6, i_7, i_8, n_0, n_1, n_2, n_3, n_4, n_5, reduceCtorEq, reduceIte, t4] <;> first | with_reducible rfl | (congr 1 <;> omega)))
            · rw [hpk]; exact oa
            · rw [hbt, hb, List.append_assoc, List.append_assoc, List.take_append_drop, ← hQ]
            · rw [List.length_append, List.length_take]; omega
      · have : s.take k = s := List.take_of_length_le (by omega)
        rw [this] at hb
        have hlen : (allBits s).length % 8 = R.length := by rw [hb, List.length_append]; omega
        have hRv := val_lt R
        by_cases hR0 : R.length = 0
        · have : R = [] := List.eq_nil_of_length_eq_zero hR0
          subst this
          repeat' (first
      | with_reducible first | refine Nx.h ?_ | (refine hK _ _ ?_; clear hK K)
      | ((with_reducible refine q_eo ?_ ?_); exact rfl)
      | ((with_reducible first | (refine Ny.h ?_; intro K hK) | (refine c_drw (by decide +kernel) ?_; intro K hK) | refine c_cond ?_ | show endW _ _ _ _ _ | (refine Nz.h ?_ ?_ <;> intro _) | fail) <;> try simp (disch := first | exact dz | fail) only [go_sem, i_0, i_1, i_2, i_3, i_4, i_5, i_6, i_7, i_8, n_0, n_1, n_2, n_3, n_4, n_5, reduceCtorEq, reduceIte, t18, t6, t4, k17]))
          refine ⟨⟨i, by omega, ?_⟩, by omega, fun b hbb => ?_⟩
          · have : putB s = pack F := by unfold putB padded; rw [hlen, hb]; simp [ones]
            rw [this]; exact oa
          · rw [hf b (by omega)]; exact hk1 b hbb
        · have hpo := pad_or R.length hR (val R) hRv (by omega)
          have hpp := pow_mono2 (a := 8 - R.length) (b := 7) (by omega)
          have hp0 : (0 : Int) < 2 ^ (8 - R.length) := Int.pow_pos (by decide)
          have e27 : (2 : Int) ^ 7 = 128 := by decide
          have hx : (8 - (R.length : Int)).toNat = 8 - R.length := by omega
          have hpR : (2 : Nat) ^ R.length ≤ 2 ^ 7 := Nat.pow_le_pow_right (by decide) (by omega)
          have hm1 : val R * 2 ^ (8 - R.length) ≤ 127 * 2 ^ 7 := Nat.mul_le_mul (by omega) (Nat.pow_le_pow_right (by decide) (by omega))
          have hm2 : ((val R : Int) * 2 ^ (8 - R.length)) = ((val R * 2 ^ (8 - R.length) : Nat) : Int) := by push_cast; rfl
          have hsh : shlI .i64 (val R) (8 - (R.length : Int)) = (val R : Int) * 2 ^ (8 - (R.length : Int)).toNat := shl_i64 (by omega) (by rw [hx, hm2]; omega) (by rw [hx, hm2]; omega)
          have hvo := val_append R (ones (8 - R.length))
          have hol : (ones (8 - R.length)).length = 8 - R.length := by simp [ones]
          have hvl := val_lt (R ++ ones (8 - R.length))
          rw [List.length_append, hol, show R.length + (8 - R.length) = 8 by omega] at hvl
          have hv1 := val_ones (8 - R.length)
          rw [hol] at hvo
          have he : (val R : Int) * 2 ^ (8 - R.length) + (2 ^ (8 - R.length) - 1) = ((val (R ++ ones (8 - R.length)) : Nat) : Int) := by
            rw [hm2, hvo]
            have : ((2 ^ (8 - R.length) : Nat) : Int) = 2 ^ (8 - R.length) := by push_cast; rfl
            omega
          rw [he] at hpo
          have hpf := pack_len F
          have hbl2 := allBits_len s
          rw [hb, List.length_append] at hbl2
          repeat' (first
      | with_reducible first | refine Nx.h ?_ | (refine hK _ _ ?_; clear hK K)
      | ((with_reducible refine q_eo ?_ ?_); exact rfl)
      | ((with_reducible first | (refine Ny.h ?_; intro K hK) | (refine c_drw (by decide +kernel) ?_; intro K hK) | refine c_cond ?_ | show endW _ _ _ _ _ | (refine Nz.h ?_ ?_ <;> intro _) | fail) <;> try simp (disch := first | exact dz | fail) only [go_sem, i_0, i_1, i_2, i_3, i_4, i_5, i_6, i_7, i_8, n_0, n_1, n_2, n_3, n_4, n_5, reduceCtorEq, reduceIte, t18, t6, t5, t4, k17, hsh, hpo]))
          refine Try.a833 oa (by omega) (by omega) (by omega) fun z h7 i7 ho7 hi7 hz7 hf7 => ?_
          refine vI ?_; repeat' (first
      | with_reducible first | refine Nx.h ?_ | (refine hK _ _ ?_; clear hK K)
      | ((with_reducible refine q_eo ?_ ?_); exact rfl)
      | ((with_reducible first | refine vO ?_ | (refine Ny.h ?_; intro K hK) | (refine c_drw (by decide +kernel) ?_; intro K hK) | refine c_cond ?_ | show endW _ _ _ _ _ | (refine Nz.h ?_ ?_ <;> intro _) | fail) <;> try simp (disch := first | exact dz | fail) only [go_sem, i_0, i_1, i_2, i_3, i_4, i_5, i_6, i_7, i_8, n_0, n_1, n_2, n_3, n_4, n_5, reduceCtorEq, reduceIte, t18, t6, t5, t4, k17]))
          refine ⟨⟨i7, by omega, ?_⟩, by omega, fun b hbb => ?_⟩
          · have : putB s = pack F ++ [UInt8.ofNat (val (R ++ ones (8 - R.length)))] := by
              unfold putB padded
              rw [hlen, hb, show (8 - R.length) % 8 = 8 - R.length by omega, List.append_assoc, pack_append _ _ hF]
              congr 1
              rw [pack, if_pos (by rw [List.length_append, hol]; omega), pack_short (by rw [List.length_drop, List.length_append, hol]; omega), List.take_of_length_le (by rw [List.length_append, hol]; omega)]
            rw [this]; exact ho7
          · rw [hf7 b (by omega) (by omega), hf b (by omega)]; exact hk1 b hbb
end Go.Proofs.Ytmpeofjfagdgkaa
