/- huff.Get: what it answers for every slice of bytes. -/
import Derived.Test.YtmpeofjfagdgkaaHufDec
set_option linter.unusedSimpArgs false
set_option linter.unusedVariables false
namespace Go.Proofs.Ytmpeofjfagdgkaa
open Go.Abs
open Int renaming reduceEq → i_0, reduceLE → i_1, reduceLT → i_2, reduceNe → i_3, reduceNeg → i_4, reduceAdd → i_5, reduceSub → i_6, reduceMul → i_7, reduceToNat → i_8
open Nat renaming reduceLT → n_0, reduceLeDiff → n_1, reduceEqDiff → n_2, reduceAdd → n_3, reduceSub → n_4, reduceMul → n_5
set_option maxRecDepth 100000
def encG (r : Int × List UInt8) : AV := .tuple [.str r.2, .int .i64 r.1]
theorem and1 : ∀ x, x < 256 → andI .u8 (x : Nat) 1 = (x : Int) % 2 := by decide +kernel
theorem or1 {w : Nat} {y : Int} (h : w < 2 ^ 40) (hy : y = 0 ∨ y = 1) : orI .i64 ((w : Int) * 2) y = (w : Int) * 2 + y := by
  have e40 : (2 : Nat) ^ 40 = 1099511627776 := by decide
  have := or_low (x := (w : Int)) (y := y) (b := 1) (by omega) (by omega) (by omega) (by omega)
  simpa using this
theorem RowAt.sl {h : AH} {B : Nat → Nat} {b : Nat} {x : Int × AV1} {r : Row} (k : RowAt h B b x r) : Sl EI h (B b) x.2.v r.2 := by
  rcases k.2 with ⟨e1, e2⟩ | ⟨_, ho, _⟩
  · rw [e1, e2]; exact .nil0 _ _
  · exact ho.sl
theorem RowAt.keep {h h' : AH} {B : Nat → Nat} {b : Nat} {x : Int × AV1} {r : Row} (k : RowAt h B b x r) (hf : ∀ c, c < h.size → h'.get c = h.get c) (hz : h.size ≤ h'.size) : RowAt h' B b x r := by
  refine ⟨k.1, ?_⟩
  rcases k.2 with k | ⟨k1, k2, k3⟩
  · exact .inl k
  · exact .inr ⟨k1, k2.frame (fun _ => hf _ k3) hz, by omega⟩
set_option maxHeartbeats 8000000 in
theorem hget (a : AV) (ia : Nat) (l : List UInt8) (h0 : AH) (ha : Sl E8 h0 ia a l) (hl : l.length ≤ 1000000) : callW Try.prog Try.T 88 [a] h0 fun v h' => v = encG (getB l) ∧ Keeps h0.size h0 h' := by
  refine callW_in (n := 75) (rs := [.tmp 2, .tmp 3]) (m := 75) Try.func88 rfl rfl rfl rfl fun tr ht => ?_; have e0 := ht 0 _ rfl; clear ht
  repeat' (first
      | with_reducible first | refine Nx.h ?_ | (refine hK _ _ ?_; clear hK K)
      | ((with_reducible refine q_eo ?_ ?_); exact rfl)
      | ((with_reducible first | (refine Ny.h ?_; intro K hK) | (refine c_drw (by decide +kernel) ?_; intro K hK) | refine c_cond ?_ | show endW _ _ _ _ _ | (refine Nz.h ?_ ?_ <;> intro _) | fail) <;> try simp (disch := first | exact dz | fail) only [go_sem, i_0, i_1, i_2, i_3, i_4, i_5, i_6, i_7, i_8, n_0, n_1, n_2, n_3, n_4, n_5, reduceCtorEq, reduceIte, e0]))
  refine callM_of (rows h0) ?_
  rintro v h1 ⟨⟨B, L, hL, oL, hR⟩, hk⟩
  have hk1 := hk.1
  have hk2 := hk.2
  have hlt0 : h0.size < h1.size := oL.lt (by intro e; rw [e] at hL; simp at hL)
  have ha1 : ∀ h, h1.size ≤ h.size → (∀ b, b < h1.size → h.get b = h1.get b) → Sl E8 h ia a l := fun h hz hf => ha.frame (fun hb => (hf _ (by omega)).trans (hk2 _ hb)) (by omega)
  have sa1 := ha1 h1 (Nat.le_refl _) fun _ _ => rfl
  refine vI ?_; repeat' (first
      | with_reducible first | refine Nx.h ?_ | (refine hK _ _ ?_; clear hK K)
      | ((with_reducible refine q_eo ?_ ?_); exact rfl)
      | ((with_reducible first | refine vO ?_ | (refine Ny.h ?_; intro K hK) | (refine c_drw (by decide +kernel) ?_; intro K hK) | refine c_cond ?_ | show endW _ _ _ _ _ | (refine Nz.h ?_ ?_ <;> intro _) | fail) <;> try simp (disch := first | exact dz | fail) only [go_sem, i_0, i_1, i_2, i_3, i_4, i_5, i_6, i_7, i_8, n_0, n_1, n_2, n_3, n_4, n_5, reduceCtorEq, reduceIte, e0]))
  have bl0 : ∀ j, bitsOf (l.drop j) = (l.drop j).flatMap bits8 := fun _ => rfl
  refine c_loopF 18446744073709493996 (fun m tm h => ∃ (j n w : Nat) (o : AV) (i : Nat) (out : List UInt8), tm.get 16 = .int .i64 j ∧ tm.get 7 = .int .i64 n ∧ tm.get 6 = .int .i64 w ∧ tm.get 5 = o ∧ Ow E8 h i o out ∧ h1.size ≤ i ∧ h1.size ≤ h.size ∧ (∀ b, b < h1.size → h.get b = h1.get b) ∧ Live n w ∧ dec (bitsOf (l.drop j)) n w out = dec (bitsOf l) 0 0 [] ∧ out.length ≤ 8 * j ∧ j ≤ l.length ∧ m = l.length - j) (l.length) (by kernel_rfl) ?_ ?_
  · refine ⟨0, 0, 0, .slice none 0 0 0 true, h1.size, [], ?_, ?_, ?_, ?_, .nil0 _ _, Nat.le_refl _, Nat.le_refl _, fun _ _ => rfl, live0, rfl, by simp, by omega, rfl⟩ <;> (first | with_reducible rfl | (simp (disch := first | exact dz | fail) only [go_sem, i_0, i_1, i_2, i_3, i_4, i_5, i_6, i_7, i_8, n_0, n_1, n_2, n_3, n_4, n_5, reduceCtorEq, reduceIte] <;> first | with_reducible rfl | (congr 1 <;> omega)))
  · rintro m tr2 h2 ho ⟨j, n, w, o, i, out, t16, t7, t6, t5, oo, hi, hz, hf, hlive, hd, hol, hj, rfl⟩
    have k4 := ho 4 (Seen.of rfl); simp (disch := first | exact dz | fail) only [go_sem, i_0, i_1, i_2, i_3, i_4, i_5, i_6, i_7, i_8, n_0, n_1, n_2, n_3, n_4, n_5, reduceCtorEq, reduceIte, e0] at k4; have k14 := ho 14 (Seen.of rfl); simp (disch := first | exact dz | fail) only [go_sem, i_0, i_1, i_2, i_3, i_4, i_5, i_6, i_7, i_8, n_0, n_1, n_2, n_3, n_4, n_5, reduceCtorEq, reduceIte, e0] at k14; have k15 := ho 15 (Seen.of rfl); simp (disch := first | exact dz | fail) only [go_sem, i_0, i_1, i_2, i_3, i_4, i_5, i_6, i_7, i_8, n_0, n_1, n_2, n_3, n_4, n_5, reduceCtorEq, reduceIte, e0] at k15
    have sa := ha1 h2 hz hf
    by_cases hjl : j < l.length
    · have hdr : bitsOf (l.drop j) = bits8 l[j]! ++ bitsOf (l.drop (j + 1)) := by
        rw [drop_bang hjl]; rfl
      generalize hc : l[j]! = c at *
      have hc256 := c.toNat_lt
      repeat' (first
      | with_reducible first | refine Nx.h ?_ | (refine hK _ _ ?_; clear hK K)
      | ((with_reducible refine q_eo ?_ ?_); exact rfl)
      | ((with_reducible first | (refine Ny.h ?_; intro K hK) | (refine c_drw (by decide +kernel) ?_; intro K hK) | refine c_cond ?_ | show endW _ _ _ _ _ | (refine Nz.h ?_ ?_ <;> intro _) | fail) <;> try simp (disch := first | exact dz | fail) only [go_sem, i_0, i_1, i_2, i_3, i_4, i_5, i_6, i_7, i_8, n_0, n_1, n_2, n_3, n_4, n_5, reduceCtorEq, reduceIte, t16, k4, k14, k15, hc]))
      refine c_loopF 9223372036853734636 (fun m tm h => ∃ (q n w : Nat) (o : AV) (i : Nat) (out : List UInt8), tm.get 10 = .int .i64 (7 - (q : Int)) ∧ tm.get 7 = .int .i64 n ∧ tm.get 6 = .int .i64 w ∧ tm.get 5 = o ∧ Ow E8 h i o out ∧ h1.size ≤ i ∧ h1.size ≤ h.size ∧ (∀ b, b < h1.size → h.get b = h1.get b) ∧ Live n w ∧ dec ((bits8 c).drop q ++ bitsOf (l.drop (j + 1))) n w out = dec (bitsOf l) 0 0 [] ∧ out.length ≤ 8 * j + q ∧ q ≤ 8 ∧ m = 8 - q) (8) (by kernel_rfl) ?_ ?_
      · refine ⟨0, n, w, o, i, out, ?_, ?_, ?_, ?_, oo, hi, hz, hf, hlive, by rw [← hd, hdr]; rfl, by omega, by omega, rfl⟩ <;> (first | with_reducible rfl | (simp (disch := first | exact dz | fail) only [go_sem, i_0, i_1, i_2, i_3, i_4, i_5, i_6, i_7, i_8, n_0, n_1, n_2, n_3, n_4, n_5, reduceCtorEq, reduceIte, t7, t6, t5] <;> first | with_reducible rfl | (congr 1 <;> omega)))
      · rintro m tr3 h3 ho3 ⟨q, n, w, o, i, out, t10, t7, t6, t5, oo, hi, hz, hf, hlive, hd, hol, hq, rfl⟩
        have q4 := ho3 4 (Seen.of rfl); simp (disch := first | exact dz | fail) only [go_sem, i_0, i_1, i_2, i_3, i_4, i_5, i_6, i_7, i_8, n_0, n_1, n_2, n_3, n_4, n_5, reduceCtorEq, reduceIte, k4, k14, k15, t16, hc] at q4; have q9 := ho3 9 (Seen.of rfl); simp (disch := first | exact dz | fail) only [go_sem, i_0, i_1, i_2, i_3, i_4, i_5, i_6, i_7, i_8, n_0, n_1, n_2, n_3, n_4, n_5, reduceCtorEq, reduceIte, k4, k14, k15, t16, hc] at q9; have q14 := ho3 14 (Seen.of rfl); simp (disch := first | exact dz | fail) only [go_sem, i_0, i_1, i_2, i_3, i_4, i_5, i_6, i_7, i_8, n_0, n_1, n_2, n_3, n_4, n_5, reduceCtorEq, reduceIte, k4, k14, k15, t16, hc] at q14; have q15 := ho3 15 (Seen.of rfl); simp (disch := first | exact dz | fail) only [go_sem, i_0, i_1, i_2, i_3, i_4, i_5, i_6, i_7, i_8, n_0, n_1, n_2, n_3, n_4, n_5, reduceCtorEq, reduceIte, k4, k14, k15, t16, hc] at q15; have q16 := ho3 16 (Seen.of rfl); simp (disch := first | exact dz | fail) only [go_sem, i_0, i_1, i_2, i_3, i_4, i_5, i_6, i_7, i_8, n_0, n_1, n_2, n_3, n_4, n_5, reduceCtorEq, reduceIte, k4, k14, k15, t16, hc] at q16
        by_cases hq8 : q < 8
        · rw [bits8_drop hq8, List.cons_append] at hd
          have hw30 : w < 1073741824 := by
            have := hlive.2.2
            have := Nat.pow_le_pow_right (n := 2) (by decide) hlive.1
            have e29 : (2 : Nat) ^ 29 = 536870912 := by decide
            omega
          have hn29 := hlive.1
          generalize hbb : (c.toNat / 2 ^ (7 - q) % 2 == 1) = b at *
          have hbv : ((c.toNat : Int) / 2 ^ (7 - (q : Int)).toNat) % 2 = (b.toNat : Nat) := by
            have e : (7 - (q : Int)).toNat = 7 - q := by omega
            rw [e, ← hbb]
            have e2 : ((c.toNat : Int) / 2 ^ (7 - q)) % 2 = ((c.toNat / 2 ^ (7 - q) % 2 : Nat) : Int) := by push_cast; rfl
            rw [e2]
            have := Nat.mod_lt (c.toNat / 2 ^ (7 - q)) (show 0 < 2 by decide)
            generalize c.toNat / 2 ^ (7 - q) % 2 = y at *
            have : y = 0 ∨ y = 1 := by omega
            rcases this with rfl | rfl <;> rfl
          have hshr : shrI .u8 (c.toNat : Int) (7 - (q : Int)) = ((c.toNat / 2 ^ (7 - q) : Nat) : Int) := by
            rw [shr_u8 (by omega), show (7 - (q : Int)).toNat = 7 - q by omega]; push_cast; rfl
          have hdl : c.toNat / 2 ^ (7 - q) < 256 := Nat.lt_of_le_of_lt (Nat.div_le_self _ _) hc256
          have hand := and1 _ hdl
          have hbv2 : (((c.toNat / 2 ^ (7 - q) : Nat) : Int)) % 2 = (b.toNat : Nat) := by
            rw [← hbv, show (7 - (q : Int)).toNat = 7 - q by omega]; push_cast; rfl
          rw [hbv2] at hand
          have hb1 : b.toNat ≤ 1 := by cases b <;> decide
          have hsh1 : shlI .i64 (w : Int) 1 = (w : Int) * 2 := by
            rw [shl_i64 (by decide) (by simp; omega) (by simp; omega)]; simp
          have hor := or1 (w := w) (y := (b.toNat : Nat)) (by have : (2 : Nat) ^ 40 = 1099511627776 := by decide
                                                              omega) (by omega)
          have hw2 : (w : Int) * 2 + (b.toNat : Nat) = ((2 * w + b.toNat : Nat) : Int) := by omega
          rw [hw2] at hor
          have hRn := (hR (n + 1) (by omega)).keep hf hz
          have sL := (oL.frame (h' := h3) (fun _ => hf _ hlt0) hz).sl
          have hat : ((n : Int) + 1).toNat = n + 1 := by omega
          have hrow := rows_ok n (by omega)
          have hsy := rows_syms (n + 1) (by omega)
          have hst := live_step (b := b) hlive
          simp only [dec] at hd
          generalize hw' : 2 * w + b.toNat = w' at *
          generalize hLx : L[n + 1]! = x at *
          generalize hrr : rtab[n + 1]! = r at *
          obtain ⟨fx, sv⟩ := x
          obtain ⟨fr, lr⟩ := r
          have sr := hRn.sl
          have hfx : fx = fr := hRn.1
          subst hfx
          simp only at sr hst hrow hsy
          have hfl := hrow.2.2
          have hld : loadA Try.T h3 133 (v.at ER.sz 0 ((n : Int) + 1)) = some (.agg [.int .i64 fx, sv.v]) := by
            rw [Sl.ldn (T := Try.T) (t := 133) (j := ((n : Int) + 1)) sL (by omega) (by omega) rfl rfl rfl, hat, hLx]; rfl
          have hfb : 0 ≤ fx ∧ fx ≤ 2147483648 := by
            rcases hrow.1 with k | k <;> omega
          have srz : ∀ c1 c2, Sl EI ((h3.push c1).set h3.size c2) (B (n + 1)) sv.v lr := by
            intro c1 c2
            rcases hRn.2 with ⟨e1, e2⟩ | ⟨_, e2, e3⟩
            · simp only at e1 e2; rw [e1, e2]; exact .nil0 _ _
            · exact sr.frame (fun _ => by simp (disch := first | exact dz | fail) only [go_sem, i_0, i_1, i_2, i_3, i_4, i_5, i_6, i_7, i_8, n_0, n_1, n_2, n_3, n_4, n_5, reduceCtorEq, reduceIte]) (by simp (disch := first | exact dz | fail) only [go_sem, i_0, i_1, i_2, i_3, i_4, i_5, i_6, i_7, i_8, n_0, n_1, n_2, n_3, n_4, n_5, reduceCtorEq, reduceIte]; omega)
          have oz : ∀ c1 c2, Ow E8 ((h3.push c1).set h3.size c2) i o out := fun c1 c2 => oo.frame (fun _ => by simp (disch := first | exact dz | fail) only [go_sem, i_0, i_1, i_2, i_3, i_4, i_5, i_6, i_7, i_8, n_0, n_1, n_2, n_3, n_4, n_5, reduceCtorEq, reduceIte]) (by simp (disch := first | exact dz | fail) only [go_sem, i_0, i_1, i_2, i_3, i_4, i_5, i_6, i_7, i_8, n_0, n_1, n_2, n_3, n_4, n_5, reduceCtorEq, reduceIte]; omega)
          rcases hst with ⟨hs1, hs2, hs3⟩ | ⟨jj, hjj, hs1, hs2, hs3, hs4⟩
          · rw [hs1] at hd
            repeat' (first
      | with_reducible first | refine Nx.h ?_ | (refine hK _ _ ?_; clear hK K)
      | ((with_reducible refine q_eo ?_ ?_); exact rfl)
      | ((with_reducible first | (refine Ny.h ?_; intro K hK) | (refine c_drw (by decide +kernel) ?_; intro K hK) | refine c_cond ?_ | show endW _ _ _ _ _ | (refine Nz.h ?_ ?_ <;> intro _) | fail) <;> try simp (disch := first | exact dz | fail) only [go_sem, i_0, i_1, i_2, i_3, i_4, i_5, i_6, i_7, i_8, n_0, n_1, n_2, n_3, n_4, n_5, reduceCtorEq, reduceIte, t10, t7, t6, t5, q4, q9, hshr, hand, hsh1, hor, hld]))
            try dsimp only
            refine ⟨rfl, _, ?_, q + 1, n + 1, w', o, i, out, ?_, ?_, ?_, ?_, oz _ _, hi, by simp (disch := first | exact dz | fail) only [go_sem, i_0, i_1, i_2, i_3, i_4, i_5, i_6, i_7, i_8, n_0, n_1, n_2, n_3, n_4, n_5, reduceCtorEq, reduceIte]; omega, fun b' hb' => by simp (disch := first | exact dz | fail) only [go_sem, i_0, i_1, i_2, i_3, i_4, i_5, i_6, i_7, i_8, n_0, n_1, n_2, n_3, n_4, n_5, reduceCtorEq, reduceIte]; exact hf b' hb', hs3, hd, by omega, by omega, rfl⟩
            · omega
            · (first | with_reducible rfl | (simp (disch := first | exact dz | fail) only [go_sem, i_0, i_1, i_2, i_3, i_4, i_5, i_6, i_7, i_8, n_0, n_1, n_2, n_3, n_4, n_5, reduceCtorEq, reduceIte, t10] <;> first | with_reducible rfl | (congr 1 <;> omega)))
            · (first | with_reducible rfl | (simp (disch := first | exact dz | fail) only [go_sem, i_0, i_1, i_2, i_3, i_4, i_5, i_6, i_7, i_8, n_0, n_1, n_2, n_3, n_4, n_5, reduceCtorEq, reduceIte, t7] <;> first | with_reducible rfl | (congr 1 <;> omega)))
            · (first | with_reducible rfl | (simp (disch := first | exact dz | fail) only [go_sem, i_0, i_1, i_2, i_3, i_4, i_5, i_6, i_7, i_8, n_0, n_1, n_2, n_3, n_4, n_5, reduceCtorEq, reduceIte, t6] <;> first | with_reducible rfl | (congr 1 <;> omega)))
            · (first | with_reducible rfl | (simp (disch := first | exact dz | fail) only [go_sem, i_0, i_1, i_2, i_3, i_4, i_5, i_6, i_7, i_8, n_0, n_1, n_2, n_3, n_4, n_5, reduceCtorEq, reduceIte, t5] <;> first | with_reducible rfl | (congr 1 <;> omega)))
          · rw [hs3] at hd
            obtain ⟨y1, y2, _⟩ := hsy jj hjj
            have hll : ∀ c1 c2, loadA Try.T ((h3.push c1).set h3.size c2) 3 (sv.v.at EI.sz 0 jj) = some (.int .i64 lr[jj]!) := fun c1 c2 => by
              have := (srz c1 c2).ldI (T := Try.T) (t := 3) (j := (jj : Int)) (by omega) (by omega) rfl rfl
              rw [this, Int.toNat_natCast]
            generalize hsy' : lr[jj]! = sy at *
            simp only at hd
            repeat' (first
      | with_reducible first | refine Nx.h ?_ | (refine hK _ _ ?_; clear hK K)
      | ((with_reducible refine q_eo ?_ ?_); exact rfl)
      | ((with_reducible first | (refine Ny.h ?_; intro K hK) | (refine c_drw (by decide +kernel) ?_; intro K hK) | refine c_cond ?_ | show endW _ _ _ _ _ | (refine Nz.h ?_ ?_ <;> intro _) | fail) <;> try simp (disch := first | exact dz | fail) only [go_sem, i_0, i_1, i_2, i_3, i_4, i_5, i_6, i_7, i_8, n_0, n_1, n_2, n_3, n_4, n_5, reduceCtorEq, reduceIte, t10, t7, t6, t5, q4, q9, hshr, hand, hsh1, hor, hld, hs2, hll]))
            · rename_i he
              rw [if_pos he] at hd
              refine ⟨?_, by simp (disch := first | exact dz | fail) only [go_sem, i_0, i_1, i_2, i_3, i_4, i_5, i_6, i_7, i_8, n_0, n_1, n_2, n_3, n_4, n_5, reduceCtorEq, reduceIte]; omega, fun b' hb' => by simp (disch := first | exact dz | fail) only [go_sem, i_0, i_1, i_2, i_3, i_4, i_5, i_6, i_7, i_8, n_0, n_1, n_2, n_3, n_4, n_5, reduceCtorEq, reduceIte]; exact (hf b' (by omega)).trans (hk2 b' hb')⟩
              unfold getB; rw [← hd]; rfl
            · rename_i he
              rw [if_neg he] at hd
              have hsm : sy % 256 = sy := by omega
              refine Try.a833 (oz _ _) (by omega) (by omega) (by omega) fun z h7 i7 ho7 hi7 hz7 hf7 => ?_
              simp only [go_sem] at hi7 hz7 hf7
              have f7 : ∀ b', b' < h1.size → h7.get b' = h1.get b' := fun b' hb' => by
                rw [hf7 b' (by omega) (by omega)]; simp (disch := first | exact dz | fail) only [go_sem, i_0, i_1, i_2, i_3, i_4, i_5, i_6, i_7, i_8, n_0, n_1, n_2, n_3, n_4, n_5, reduceCtorEq, reduceIte]; exact hf b' hb'
              rw [hsm] at ho7
              by_cases hq7 : q = 7
              · refine vI ?_; repeat' (first
      | with_reducible first | refine Nx.h ?_ | (refine hK _ _ ?_; clear hK K)
      | ((with_reducible refine q_eo ?_ ?_); exact rfl)
      | ((with_reducible first | refine vO ?_ | (refine Ny.h ?_; intro K hK) | (refine c_drw (by decide +kernel) ?_; intro K hK) | refine c_cond ?_ | show endW _ _ _ _ _ | (refine Nz.h ?_ ?_ <;> intro _) | fail) <;> try simp (disch := first | exact dz | fail) only [go_sem, i_0, i_1, i_2, i_3, i_4, i_5, i_6, i_7, i_8, n_0, n_1, n_2, n_3, n_4, n_5, reduceCtorEq, reduceIte, t10, t7, t6, t5, q4, q9, q16]))
                have e8 : (bits8 c).drop (q + 1) = [] := List.drop_of_length_le (by rw [bits8_len]; omega)
                rw [e8, List.nil_append] at hd
                try dsimp only
                refine ⟨rfl, _, ?_, j + 1, 0, 0, z, i7, out ++ [UInt8.ofNat sy.toNat], ?_, ?_, ?_, ?_, ho7, by omega, by omega, f7, live0, hd, by simp; omega, by omega, rfl⟩
                · omega
                · (first | with_reducible rfl | (simp (disch := first | exact dz | fail) only [go_sem, i_0, i_1, i_2, i_3, i_4, i_5, i_6, i_7, i_8, n_0, n_1, n_2, n_3, n_4, n_5, reduceCtorEq, reduceIte, q16] <;> first | with_reducible rfl | (congr 1 <;> omega)))
                · (first | with_reducible rfl | (simp (disch := first | exact dz | fail) only [go_sem, i_0, i_1, i_2, i_3, i_4, i_5, i_6, i_7, i_8, n_0, n_1, n_2, n_3, n_4, n_5, reduceCtorEq, reduceIte] <;> first | with_reducible rfl | (congr 1 <;> omega)))
                · (first | with_reducible rfl | (simp (disch := first | exact dz | fail) only [go_sem, i_0, i_1, i_2, i_3, i_4, i_5, i_6, i_7, i_8, n_0, n_1, n_2, n_3, n_4, n_5, reduceCtorEq, reduceIte] <;> first | with_reducible rfl | (congr 1 <;> omega)))
                · (first | with_reducible rfl | (simp (disch := first | exact dz | fail) only [go_sem, i_0, i_1, i_2, i_3, i_4, i_5, i_6, i_7, i_8, n_0, n_1, n_2, n_3, n_4, n_5, reduceCtorEq, reduceIte] <;> first | with_reducible rfl | (congr 1 <;> omega)))
              · refine vI ?_; repeat' (first
      | with_reducible first | refine Nx.h ?_ | (refine hK _ _ ?_; clear hK K)
      | ((with_reducible refine q_eo ?_ ?_); exact rfl)
      | ((with_reducible first | refine vO ?_ | (refine Ny.h ?_; intro K hK) | (refine c_drw (by decide +kernel) ?_; intro K hK) | refine c_cond ?_ | show endW _ _ _ _ _ | (refine Nz.h ?_ ?_ <;> intro _) | fail) <;> try simp (disch := first | exact dz | fail) only [go_sem, i_0, i_1, i_2, i_3, i_4, i_5, i_6, i_7, i_8, n_0, n_1, n_2, n_3, n_4, n_5, reduceCtorEq, reduceIte, t10, t7, t6, t5, q4, q9, q16]))
                try dsimp only
                refine ⟨rfl, _, ?_, q + 1, 0, 0, z, i7, out ++ [UInt8.ofNat sy.toNat], ?_, ?_, ?_, ?_, ho7, by omega, by omega, f7, live0, hd, by simp; omega, by omega, rfl⟩
                · omega
                · (first | with_reducible rfl | (simp (disch := first | exact dz | fail) only [go_sem, i_0, i_1, i_2, i_3, i_4, i_5, i_6, i_7, i_8, n_0, n_1, n_2, n_3, n_4, n_5, reduceCtorEq, reduceIte, t10] <;> first | with_reducible rfl | (congr 1 <;> omega)))
                · (first | with_reducible rfl | (simp (disch := first | exact dz | fail) only [go_sem, i_0, i_1, i_2, i_3, i_4, i_5, i_6, i_7, i_8, n_0, n_1, n_2, n_3, n_4, n_5, reduceCtorEq, reduceIte] <;> first | with_reducible rfl | (congr 1 <;> omega)))
                · (first | with_reducible rfl | (simp (disch := first | exact dz | fail) only [go_sem, i_0, i_1, i_2, i_3, i_4, i_5, i_6, i_7, i_8, n_0, n_1, n_2, n_3, n_4, n_5, reduceCtorEq, reduceIte] <;> first | with_reducible rfl | (congr 1 <;> omega)))
                · (first | with_reducible rfl | (simp (disch := first | exact dz | fail) only [go_sem, i_0, i_1, i_2, i_3, i_4, i_5, i_6, i_7, i_8, n_0, n_1, n_2, n_3, n_4, n_5, reduceCtorEq, reduceIte] <;> first | with_reducible rfl | (congr 1 <;> omega)))
        · have : q = 8 := by omega
          subst this
          have e8 : (bits8 c).drop 8 = [] := List.drop_of_length_le (by rw [bits8_len]; omega)
          rw [e8, List.nil_append] at hd
          repeat' (first
      | with_reducible first | refine Nx.h ?_ | (refine hK _ _ ?_; clear hK K)
      | ((with_reducible refine q_eo ?_ ?_); exact rfl)
      | ((with_reducible first | (refine Ny.h ?_; intro K hK) | (refine c_drw (by decide +kernel) ?_; intro K hK) | refine c_cond ?_ | show endW _ _ _ _ _ | (refine Nz.h ?_ ?_ <;> intro _) | fail) <;> try simp (disch := first | exact dz | fail) only [go_sem, i_0, i_1, i_2, i_3, i_4, i_5, i_6, i_7, i_8, n_0, n_1, n_2, n_3, n_4, n_5, reduceCtorEq, reduceIte, t10, q16]))
          try dsimp only
          refine ⟨rfl, _, ?_, j + 1, n, w, o, i, out, ?_, ?_, ?_, ?_, oo, hi, hz, hf, hlive, hd, by omega, by omega, rfl⟩
          · omega
          · (first | with_reducible rfl | (simp (disch := first | exact dz | fail) only [go_sem, i_0, i_1, i_2, i_3, i_4, i_5, i_6, i_7, i_8, n_0, n_1, n_2, n_3, n_4, n_5, reduceCtorEq, reduceIte, q16] <;> first | with_reducible rfl | (congr 1 <;> omega)))
          · (first | with_reducible rfl | (simp (disch := first | exact dz | fail) only [go_sem, i_0, i_1, i_2, i_3, i_4, i_5, i_6, i_7, i_8, n_0, n_1, n_2, n_3, n_4, n_5, reduceCtorEq, reduceIte, t7] <;> first | with_reducible rfl | (congr 1 <;> omega)))
          · (first | with_reducible rfl | (simp (disch := first | exact dz | fail) only [go_sem, i_0, i_1, i_2, i_3, i_4, i_5, i_6, i_7, i_8, n_0, n_1, n_2, n_3, n_4, n_5, reduceCtorEq, reduceIte, t6] <;> first | with_reducible rfl | (congr 1 <;> omega)))
          · (first | with_reducible rfl | (simp (disch := first | exact dz | fail) only [go_sem, i_0, i_1, i_2, i_3, i_4, i_5, i_6, i_7, i_8, n_0, n_1, n_2, n_3, n_4, n_5, reduceCtorEq, reduceIte, t5] <;> first | with_reducible rfl | (congr 1 <;> omega)))
    · have hjl' : l.drop j = [] := List.drop_of_length_le (by omega)
      rw [hjl'] at hd
      have hdn : dec (bitsOf []) n w out = if 8 ≤ n ∨ w + 1 ≠ 2 ^ n then none else some out := rfl
      rw [hdn] at hd
      have soo := oo.sl
      have hn29 := hlive.1
      have hpw : ((2 ^ n : Nat) : Int) = 2 ^ n := by push_cast; rfl
      have hp29 := pow_mono2 hn29
      have e29 : (2 : Int) ^ 29 = 536870912 := by decide
      have hp0 : (0 : Int) < 2 ^ n := Int.pow_pos (by decide)
      have hsh : shlI .i64 1 (n : Int) = 2 ^ n := by
        rw [shl_i64 (by omega) (by rw [Int.toNat_natCast]; omega) (by rw [Int.toNat_natCast]; omega), Int.toNat_natCast]; omega
      repeat' (first
      | with_reducible first | refine Nx.h ?_ | (refine hK _ _ ?_; clear hK K)
      | ((with_reducible refine q_eo ?_ ?_); exact rfl)
      | ((with_reducible first | (refine Ny.h ?_; intro K hK) | (refine c_drw (by decide +kernel) ?_; intro K hK) | refine c_cond ?_ | show endW _ _ _ _ _ | (refine Nz.h ?_ ?_ <;> intro _) | fail) <;> try simp (disch := first | exact dz | fail) only [go_sem, i_0, i_1, i_2, i_3, i_4, i_5, i_6, i_7, i_8, n_0, n_1, n_2, n_3, n_4, n_5, reduceCtorEq, reduceIte, t16, t7, t6, t5, k4, k14, k15, hsh]))
      · rw [if_pos (.inl (by omega))] at hd
        exact ⟨by unfold getB; rw [← hd]; rfl, by omega, fun b hb => (hf b (by omega)).trans (hk2 b hb)⟩
      · rw [if_neg (by omega)] at hd
        exact ⟨by unfold getB; rw [← hd]; rfl, by omega, fun b hb => (hf b (by omega)).trans (hk2 b hb)⟩
      · rw [if_pos (.inr (by omega))] at hd
        exact ⟨by unfold getB; rw [← hd]; rfl, by omega, fun b hb => (hf b (by omega)).trans (hk2 b hb)⟩
end Go.Proofs.Ytmpeofjfagdgkaa
