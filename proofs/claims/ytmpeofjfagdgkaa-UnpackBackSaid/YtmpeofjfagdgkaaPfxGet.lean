/- prefix.Get: what it answers for every slice of bytes. -/
import Derived.Test.YtmpeofjfagdgkaaAbsB
import Derived.Test.YtmpeofjfagdgkaaAbsFpu
import Derived.Test.YtmpeofjfagdgkaaProg
set_option linter.unusedSimpArgs false
set_option linter.unusedVariables false
namespace Go.Proofs.Ytmpeofjfagdgkaa
open Go.Abs
open Int renaming reduceEq → i_0, reduceLE → i_1, reduceLT → i_2, reduceNe → i_3, reduceNeg → i_4, reduceAdd → i_5, reduceSub → i_6, reduceMul → i_7, reduceToNat → i_8
open Nat renaming reduceLT → n_0, reduceLeDiff → n_1, reduceEqDiff → n_2, reduceAdd → n_3, reduceSub → n_4, reduceMul → n_5
set_option maxRecDepth 100000
def getL : Nat → Int → List UInt8 → Int × Int × Int
  | _, _, [] => (0, 0, 3)
  | i, n, c :: r => if n + (c.toNat : Int) % 128 * 128 ^ i > 2147483647 ∨ (i = 4 ∧ 128 ≤ c.toNat) then (0, 0, 2) else if 128 ≤ c.toNat then getL (i + 1) (n + (c.toNat : Int) % 128 * 128 ^ i) r else (n + (c.toNat : Int) % 128 * 128 ^ i, (i : Int) + 2, 0)
def getS (b : Int) (l : List UInt8) : Int × Int × Int :=
  if b < 1 ∨ b > 8 then (0, 0, 1) else match l with
    | [] => (0, 0, 3)
    | x :: r => if (x.toNat : Int) % 2 ^ b.toNat < 2 ^ b.toNat - 1 then ((x.toNat : Int) % 2 ^ b.toNat, 1, 0) else getL 0 ((x.toNat : Int) % 2 ^ b.toNat) r
def enc3 (r : Int × Int × Int) : AV := .tuple [.int .i64 r.1, .int .i64 r.2.1, .int .i64 r.2.2]
theorem mask8_all : ∀ b, b < 9 → 1 ≤ b → IntKind.u8.wrap (shlI .u8 1 (b : Nat) - 1) = 2 ^ b - 1 := by decide +kernel
theorem and8_all : ∀ b, b < 9 → ∀ x, x < 256 → andI .u8 (x : Nat) (2 ^ b - 1) = (x : Int) % 2 ^ b := by decide +kernel
theorem and127 : ∀ x, x < 256 → andI .u8 (x : Nat) 127 = (x : Int) % 128 := by decide +kernel
theorem shl7_all : ∀ i, i < 5 → ∀ x, x < 128 → shlI .i64 (x : Nat) ((7 * i : Nat) : Int) = (x : Int) * 128 ^ i := by decide +kernel
theorem pow128 {i : Nat} (h : i ≤ 4) : (128 : Int) ^ i ≤ 268435456 ∧ 0 < (128 : Int) ^ i := by
  have : i = 0 ∨ i = 1 ∨ i = 2 ∨ i = 3 ∨ i = 4 := by omega
  rcases this with rfl | rfl | rfl | rfl | rfl <;> decide

set_option maxHeartbeats 4000000 in
theorem get (a : AV) (i : Nat) (l : List UInt8) (b : Int) (h0 : AH) (ha : Sl E8 h0 i a l) (hl : l.length ≤ 9223372036854775807) : callW Try.prog Try.T 85 [a, .int .i64 b] h0 fun v h' => v = enc3 (getS b l) ∧ h' = h0 := by
  refine callW_hide fun KK hKK => ?_
  refine callW_in (n := 70) (rs := [.tmp 4, .tmp 5, .tmp 6]) (m := 70) Try.func85 rfl rfl rfl rfl fun tr ht => ?_; have e0 := ht 0 _ rfl; have e1 := ht 1 _ rfl; clear ht
  by_cases hb : b < 1 ∨ b > 8
  · repeat' (first
      | with_reducible first | refine Nx.h ?_ | (refine hK _ _ ?_; clear hK K)
      | ((with_reducible refine q_eo ?_ ?_); exact rfl)
      | ((with_reducible first | (refine Ny.h ?_; intro K hK) | (refine c_drw (by decide +kernel) ?_; intro K hK) | refine c_cond ?_ | show endW _ _ _ _ _ | (refine Nz.h ?_ ?_ <;> intro _) | fail) <;> try simp (disch := first | exact dz | fail) only [go_sem, i_0, i_1, i_2, i_3, i_4, i_5, i_6, i_7, i_8, n_0, n_1, n_2, n_3, n_4, n_5, reduceCtorEq, reduceIte, e0, e1]))
    all_goals exact hKK _ _ ⟨by unfold getS; rw [if_pos hb]; rfl, rfl⟩
  have hb1 : 1 ≤ b := by omega
  have hb8 : b ≤ 8 := by omega
  rcases l with _ | ⟨x, r⟩
  · repeat' (first
      | with_reducible first | refine Nx.h ?_ | (refine hK _ _ ?_; clear hK K)
      | ((with_reducible refine q_eo ?_ ?_); exact rfl)
      | ((with_reducible first | (refine Ny.h ?_; intro K hK) | (refine c_drw (by decide +kernel) ?_; intro K hK) | refine c_cond ?_ | show endW _ _ _ _ _ | (refine Nz.h ?_ ?_ <;> intro _) | fail) <;> try simp (disch := first | exact dz | fail) only [go_sem, i_0, i_1, i_2, i_3, i_4, i_5, i_6, i_7, i_8, n_0, n_1, n_2, n_3, n_4, n_5, reduceCtorEq, reduceIte, e0, e1, List.length_nil]))
    all_goals exact hKK _ _ ⟨by unfold getS; rw [if_neg hb]; rfl, rfl⟩
  have hS : getS b (x :: r) = (if (x.toNat : Int) % 2 ^ b.toNat < 2 ^ b.toNat - 1 then ((x.toNat : Int) % 2 ^ b.toNat, 1, 0) else getL 0 ((x.toNat : Int) % 2 ^ b.toNat) r) := by unfold getS; rw [if_neg hb]
  rw [hS] at hKK
  have hz : Sl E8 h0 i (a.part 1 ((x :: r).length : Int)) r := by
    have := ha.part (lo := 1) (hi := ((x :: r).length : Int)) (by omega) (by simp; omega) (Int.le_refl _)
    simpa using this
  have hx : x.toNat < 256 := x.toNat_lt
  have hmask : IntKind.u8.wrap (shlI .u8 1 b - 1) = 2 ^ b.toNat - 1 := by
    have := mask8_all b.toNat (by omega) (by omega)
    rwa [Int.toNat_of_nonneg (by omega)] at this
  have hand := and8_all b.toNat (by omega) x.toNat hx
  have hpos : (0 : Int) < 2 ^ b.toNat := Int.pow_pos (by decide)
  have hx0 : ((x :: r)[0]!) = x := rfl
  have hM1 : (x.toNat : Int) % 2 ^ b.toNat < 2 ^ b.toNat := Int.emod_lt_of_pos _ hpos
  have hM0 : (0 : Int) ≤ (x.toNat : Int) % 2 ^ b.toNat := Int.emod_nonneg _ (by omega)
  have hM2 : (x.toNat : Int) % 2 ^ b.toNat ≤ 255 := by
    have : x.toNat % 2 ^ b.toNat ≤ x.toNat := Nat.mod_le _ _
    have e : ((x.toNat % 2 ^ b.toNat : Nat) : Int) = (x.toNat : Int) % 2 ^ b.toNat := by push_cast; rfl
    omega
  generalize hM : (2 : Int) ^ b.toNat = M at *
  have hlc : (x :: r).length = r.length + 1 := rfl
  have hz2 : Sl E8 h0 i (a.part 1 ((r.length + 1 : Nat) : Int)) r := hz
  generalize hy : (x.toNat : Int) % M = y at *
  by_cases hc : y < M - 1
  · rw [if_pos hc] at hKK
    repeat' (first
      | with_reducible first | refine Nx.h ?_ | (refine hK _ _ ?_; clear hK K)
      | ((with_reducible refine q_eo ?_ ?_); exact rfl)
      | ((with_reducible first | (refine Ny.h ?_; intro K hK) | (refine c_drw (by decide +kernel) ?_; intro K hK) | refine c_cond ?_ | show endW _ _ _ _ _ | (refine Nz.h ?_ ?_ <;> intro _) | fail) <;> try simp (disch := first | exact dz | fail) only [go_sem, i_0, i_1, i_2, i_3, i_4, i_5, i_6, i_7, i_8, n_0, n_1, n_2, n_3, n_4, n_5, reduceCtorEq, reduceIte, e0, e1, hmask, hx0, hand]))
    exact hKK _ _ ⟨rfl, rfl⟩
  · rw [if_neg hc] at hKK
    repeat' (first
      | with_reducible first | refine Nx.h ?_ | (refine hK _ _ ?_; clear hK K)
      | ((with_reducible refine q_eo ?_ ?_); exact rfl)
      | ((with_reducible first | (refine Ny.h ?_; intro K hK) | (refine c_drw (by decide +kernel) ?_; intro K hK) | refine c_cond ?_ | show endW _ _ _ _ _ | (refine Nz.h ?_ ?_ <;> intro _) | fail) <;> try simp (disch := first | exact dz | fail) only [go_sem, i_0, i_1, i_2, i_3, i_4, i_5, i_6, i_7, i_8, n_0, n_1, n_2, n_3, n_4, n_5, reduceCtorEq, reduceIte, e0, e1, hmask, hx0, hand]))
    refine c_loopF 1180591619617899677552 (fun m tm h => ∃ (j : Nat) (n : Int), tm.get 40 = .int .i64 j ∧ tm.get 8 = .int .i64 n ∧ h = h0 ∧ getL j n (r.drop j) = getL 0 y r ∧ (j ≤ 4 ∨ r.length ≤ j) ∧ j ≤ r.length ∧ 0 ≤ n ∧ n ≤ 2147483647 ∧ m = r.length - j) (r.length) (by kernel_rfl) ?_ ?_
    · refine ⟨0, y, ?_, ?_, rfl, rfl, by omega, by omega, by omega, by omega, rfl⟩ <;> (first | with_reducible rfl | (simp (disch := first | exact dz | fail) only [go_sem, i_0, i_1, i_2, i_3, i_4, i_5, i_6, i_7, i_8, n_0, n_1, n_2, n_3, n_4, n_5, reduceCtorEq, reduceIte] <;> first | with_reducible rfl | (congr 1 <;> omega)))
    · rintro m tr2 h2 ho ⟨j, n, t40, t8, rfl, hg, h4, h5, h6, h7, rfl⟩
      by_cases hj : j < r.length
      · have hdr := drop_bang hj
        rw [hdr] at hg
        generalize hcc : r[j]! = c at *
        have ha127 := and127 c.toNat c.toNat_lt
        have hsl : shlI .i64 ((c.toNat : Int) % 128) (7 * (j : Int)) = (c.toNat : Int) % 128 * 128 ^ j := shl7_all j (by omega) (c.toNat % 128) (by omega)
        have hpw := pow128 (i := j) (by omega)
        have hP0 : 0 ≤ (c.toNat : Int) % 128 * 128 ^ j := Int.mul_nonneg (by omega) (by omega)
        have hP1 : (c.toNat : Int) % 128 * 128 ^ j ≤ 127 * 268435456 := Int.mul_le_mul (by omega) hpw.1 (by omega) (by omega)
        simp only [getL] at hg
        generalize hP : (c.toNat : Int) % 128 * 128 ^ j = P at *
        repeat' (first
      | with_reducible first | refine Nx.h ?_ | (refine hK _ _ ?_; clear hK K)
      | ((with_reducible refine q_eo ?_ ?_); exact rfl)
      | ((with_reducible first | (refine Ny.h ?_; intro K hK) | (refine c_drw (by decide +kernel) ?_; intro K hK) | refine c_cond ?_ | show endW _ _ _ _ _ | (refine Nz.h ?_ ?_ <;> intro _) | fail) <;> try simp (disch := first | exact dz | fail) only [go_sem, i_0, i_1, i_2, i_3, i_4, i_5, i_6, i_7, i_8, n_0, n_1, n_2, n_3, n_4, n_5, reduceCtorEq, reduceIte, t40, t8, ho, hcc, ha127, hsl]))
        · rw [if_pos (.inl (by omega))] at hg; exact hKK _ _ ⟨congrArg enc3 hg, rfl⟩
        · rw [if_pos (.inr ⟨by omega, by omega⟩)] at hg; exact hKK _ _ ⟨congrArg enc3 hg, rfl⟩
        · rw [if_neg (by omega), if_neg (by omega)] at hg; exact hKK _ _ ⟨congrArg enc3 hg, rfl⟩
        · rw [if_neg (by omega), if_pos (by omega)] at hg
          refine ⟨rfl, r.length - (j + 1), by omega, j + 1, n + P, ?_, ?_, rfl, hg, by omega, by omega, by omega, by omega, rfl⟩ <;> (first | with_reducible rfl | (simp (disch := first | exact dz | fail) only [go_sem, i_0, i_1, i_2, i_3, i_4, i_5, i_6, i_7, i_8, n_0, n_1, n_2, n_3, n_4, n_5, reduceCtorEq, reduceIte, t40, t8, ho] <;> first | with_reducible rfl | (congr 1 <;> omega)))
        · rw [if_neg (by omega), if_neg (by omega)] at hg; exact hKK _ _ ⟨congrArg enc3 hg, rfl⟩
      · have hdr : r.drop j = [] := List.drop_of_length_le (by omega)
        rw [hdr] at hg
        repeat' (first
      | with_reducible first | refine Nx.h ?_ | (refine hK _ _ ?_; clear hK K)
      | ((with_reducible refine q_eo ?_ ?_); exact rfl)
      | ((with_reducible first | (refine Ny.h ?_; intro K hK) | (refine c_drw (by decide +kernel) ?_; intro K hK) | refine c_cond ?_ | show endW _ _ _ _ _ | (refine Nz.h ?_ ?_ <;> intro _) | fail) <;> try simp (disch := first | exact dz | fail) only [go_sem, i_0, i_1, i_2, i_3, i_4, i_5, i_6, i_7, i_8, n_0, n_1, n_2, n_3, n_4, n_5, reduceCtorEq, reduceIte, t40, t8, ho]))
        all_goals exact hKK _ _ ⟨congrArg enc3 hg, rfl⟩
end Go.Proofs.Ytmpeofjfagdgkaa
