/- prefix.Put, prefix.Len and the reference's Power, Put: what they answer. -/
import Derived.Test.YtmpeofjfagdgkaaPfxGet
set_option linter.unusedSimpArgs false
set_option linter.unusedVariables false
namespace Go.Proofs.Ytmpeofjfagdgkaa
open Go.Abs
open Int renaming reduceEq → i_0, reduceLE → i_1, reduceLT → i_2, reduceNe → i_3, reduceNeg → i_4, reduceAdd → i_5, reduceSub → i_6, reduceMul → i_7, reduceToNat → i_8
open Nat renaming reduceLT → n_0, reduceLeDiff → n_1, reduceEqDiff → n_2, reduceAdd → n_3, reduceSub → n_4, reduceMul → n_5
set_option maxRecDepth 100000
def putL (n : Nat) : List UInt8 := if 128 ≤ n then UInt8.ofNat (n % 128 + 128) :: putL (n / 128) else [UInt8.ofNat n]
def putS (b f n : Int) : Int × List UInt8 :=
  if b < 1 ∨ b > 8 ∨ f < 0 ∨ f > 255 ∨ n < 0 ∨ n > 2147483647 ∨ ¬ f % 2 ^ b.toNat = 0 then (1, [])
  else if n < 2 ^ b.toNat - 1 then (0, [UInt8.ofNat ((f + n) % 256).toNat]) else (0, UInt8.ofNat ((f + (2 ^ b.toNat - 1)) % 256).toNat :: putL (n - (2 ^ b.toNat - 1)).toNat)
def PutK (h : AH) (r : Int × List UInt8) (v : AV) (h' : AH) : Prop := ∃ a, v = .tuple [a, .int .i64 r.1] ∧ NewB h r.2 a h'
theorem PutK_err {h : AH} {r : Int × List UInt8} (hr : r = (1, [])) : PutK h r (.tuple [.slice none 0 0 0 true, .int .i64 1]) h := by
  subst hr
  exact ⟨_, rfl, ⟨_, Nat.le_refl _, .nil0 _ _⟩, Keeps.refl _ _⟩
theorem PutK_one {h : AH} {r : Int × List UInt8} {e : Int} (h0 : 0 ≤ e) (h1 : e < 256) (hr : r = (0, [UInt8.ofNat e.toNat])) : PutK h r (.tuple [.slice (some (h.size, 0)) 1 1 1 true, .int .i64 0]) (h.push (.cells [.int .u8 e])) := by
  subst hr
  refine ⟨_, rfl, ⟨_, Nat.le_refl _, Ow.full (E := E8) 1 true [UInt8.ofNat e.toNat] ?_ (by simp) rfl⟩, (Keeps.refl _ _).push (Nat.le_refl _) _⟩
  rw [AH.get_push, if_pos rfl, e8_of h0 h1]; rfl
theorem mask_eq {b : Int} (h1 : 1 ≤ b) (h8 : b ≤ 8) : IntKind.i64.wrap (shlI .i64 1 b - 1) = 2 ^ b.toNat - 1 := by
  have : b = 1 ∨ b = 2 ∨ b = 3 ∨ b = 4 ∨ b = 5 ∨ b = 6 ∨ b = 7 ∨ b = 8 := by omega
  rcases this with rfl | rfl | rfl | rfl | rfl | rfl | rfl | rfl <;> decide
theorem pow_le8 {b : Int} (h1 : 1 ≤ b) (h8 : b ≤ 8) : (2 : Int) ≤ 2 ^ b.toNat ∧ (2 : Int) ^ b.toNat ≤ 256 := by
  have : b = 1 ∨ b = 2 ∨ b = 3 ∨ b = 4 ∨ b = 5 ∨ b = 6 ∨ b = 7 ∨ b = 8 := by omega
  rcases this with rfl | rfl | rfl | rfl | rfl | rfl | rfl | rfl <;> decide
theorem or128 {x : Int} (h0 : 0 ≤ x) (h1 : x < 256) : orI .u8 x 128 = x % 128 + 128 := by
  have all : ∀ x, x < 256 → orI .u8 (x : Nat) 128 = (x : Int) % 128 + 128 := by decide +kernel
  have := all x.toNat (by omega)
  rwa [Int.toNat_of_nonneg h0] at this
theorem putL_step {n : Int} (h : 128 ≤ n) : putL n.toNat = UInt8.ofNat (n % 128 + 128).toNat :: putL (n / 128).toNat := by
  rw [putL, if_pos (by omega)]
  congr 2 <;> omega
theorem putL_end {n : Int} (h0 : 0 ≤ n) (h : n < 128) : putL n.toNat = [UInt8.ofNat (n % 256).toNat] := by
  rw [putL, if_neg (by omega)]
  congr 2; omega
theorem push1 {h : AH} {e : Int} (h0 : 0 ≤ e) (h1 : e < 256) : Ow E8 (h.push (.cells [.int .u8 e])) h.size (.slice (some (h.size, 0)) 1 1 1 true) [UInt8.ofNat e.toNat] := by
  refine Ow.full (E := E8) 1 true [UInt8.ofNat e.toNat] ?_ (by simp) rfl
  rw [AH.get_push, if_pos rfl, e8_of h0 h1]; rfl
set_option maxHeartbeats 4000000 in
theorem put (b f n : Int) (h0 : AH) : callW Try.prog Try.T 56 [.int .i64 b, .int .i64 f, .int .i64 n] h0 (PutK h0 (putS b f n)) := by
  refine callW_in (n := 71) (rs := [.tmp 6, .tmp 7]) (m := 71) Try.func56 rfl rfl rfl rfl fun tr ht => ?_; have e0 := ht 0 _ rfl; have e1 := ht 1 _ rfl; have e2 := ht 2 _ rfl; clear ht
  by_cases hb : b < 1 ∨ b > 8 ∨ f < 0 ∨ f > 255 ∨ n < 0 ∨ n > 2147483647
  · repeat' (first
      | with_reducible first | refine Nx.h ?_ | (refine hK _ _ ?_; clear hK K)
      | ((with_reducible refine q_eo ?_ ?_); exact rfl)
      | ((with_reducible first | (refine Ny.h ?_; intro K hK) | (refine c_drw (by decide +kernel) ?_; intro K hK) | refine c_cond ?_ | show endW _ _ _ _ _ | (refine Nz.h ?_ ?_ <;> intro _) | fail) <;> try simp (disch := first | exact dz | fail) only [go_sem, i_0, i_1, i_2, i_3, i_4, i_5, i_6, i_7, i_8, n_0, n_1, n_2, n_3, n_4, n_5, reduceCtorEq, reduceIte, e0, e1, e2]))
    all_goals exact PutK_err (by unfold putS; rw [if_pos (by omega)])
  have hmask := mask_eq (b := b) (by omega) (by omega)
  have hand := and_low (x := f) (b := b.toNat) (by omega) (by omega) (by omega)
  have hp := pow_le8 (b := b) (by omega) (by omega)
  unfold putS
  generalize hM : (2 : Int) ^ b.toNat = M at *
  generalize hF : f % M = F at *
  repeat' (first
      | with_reducible first | refine Nx.h ?_ | (refine hK _ _ ?_; clear hK K)
      | ((with_reducible refine q_eo ?_ ?_); exact rfl)
      | ((with_reducible first | (refine Ny.h ?_; intro K hK) | (refine c_drw (by decide +kernel) ?_; intro K hK) | refine c_cond ?_ | show endW _ _ _ _ _ | (refine Nz.h ?_ ?_ <;> intro _) | fail) <;> try simp (disch := first | exact dz | fail) only [go_sem, i_0, i_1, i_2, i_3, i_4, i_5, i_6, i_7, i_8, n_0, n_1, n_2, n_3, n_4, n_5, reduceCtorEq, reduceIte, e0, e1, e2, hmask, hand]))
  · exact PutK_one (by omega) (by omega) (by rw [if_neg (by omega), if_pos (by omega)]; congr 4; omega)
  · rw [if_neg (by omega), if_neg (by omega)]
    have hs : M - 1 = M - 1 := rfl
    refine c_loopF 73714918700800279044 (fun m tm h => ∃ (k : Int) (a : AV) (i : Nat) (l : List UInt8), tm.get 2 = .int .i64 k ∧ tm.get 9 = a ∧ Ow E8 h i a l ∧ h0.size ≤ i ∧ Keeps h0.size h0 h ∧ l ++ putL k.toNat = UInt8.ofNat ((f + (M - 1)) % 256).toNat :: putL (n - (M - 1)).toNat ∧ l.length + k ≤ 2147483650 ∧ 0 ≤ k ∧ m = k.toNat) ((n - (M - 1)).toNat) (by kernel_rfl) ?_ ?_
    · refine ⟨n - (M - 1), _, h0.size, _, ?_, ?_, push1 (e := (f + (M - 1)) % 256) (by omega) (by omega), Nat.le_refl _, (Keeps.refl _ _).push (Nat.le_refl _) _, rfl, ?_, by omega, rfl⟩
      · (first | with_reducible rfl | (simp (disch := first | exact dz | fail) only [go_sem, i_0, i_1, i_2, i_3, i_4, i_5, i_6, i_7, i_8, n_0, n_1, n_2, n_3, n_4, n_5, reduceCtorEq, reduceIte] <;> first | with_reducible rfl | (congr 1 <;> omega)))
      · (first | with_reducible rfl | (simp (disch := first | exact dz | fail) only [go_sem, i_0, i_1, i_2, i_3, i_4, i_5, i_6, i_7, i_8, n_0, n_1, n_2, n_3, n_4, n_5, reduceCtorEq, reduceIte] <;> first | with_reducible rfl | (congr 1 <;> omega)))
      · simp; omega
    · rintro m tr2 h2 ho ⟨k, a, i, l, t2, t9, hoa, hi, hk, hl, hlen, hk0, rfl⟩
      have hor := or128 (x := k % 256) (by omega) (by omega)
      repeat' (first
      | with_reducible first | refine Nx.h ?_ | (refine hK _ _ ?_; clear hK K)
      | ((with_reducible refine q_eo ?_ ?_); exact rfl)
      | ((with_reducible first | (refine Ny.h ?_; intro K hK) | (refine c_drw (by decide +kernel) ?_; intro K hK) | refine c_cond ?_ | show endW _ _ _ _ _ | (refine Nz.h ?_ ?_ <;> intro _) | fail) <;> try simp (disch := first | exact dz | fail) only [go_sem, i_0, i_1, i_2, i_3, i_4, i_5, i_6, i_7, i_8, n_0, n_1, n_2, n_3, n_4, n_5, reduceCtorEq, reduceIte, t2, t9, hor]))
      · refine Try.a833 hoa (by omega) (by omega) (by omega) fun z h3 i3 ho3 hi3 hz3 hf3 => ?_
        refine vI ?_; repeat' (first
      | with_reducible first | refine Nx.h ?_ | (refine hK _ _ ?_; clear hK K)
      | ((with_reducible refine q_eo ?_ ?_); exact rfl)
      | ((with_reducible first | refine vO ?_ | (refine Ny.h ?_; intro K hK) | (refine c_drw (by decide +kernel) ?_; intro K hK) | refine c_cond ?_ | show endW _ _ _ _ _ | (refine Nz.h ?_ ?_ <;> intro _) | fail) <;> try simp (disch := first | exact dz | fail) only [go_sem, i_0, i_1, i_2, i_3, i_4, i_5, i_6, i_7, i_8, n_0, n_1, n_2, n_3, n_4, n_5, reduceCtorEq, reduceIte, t2, t9]))
        try dsimp only
        refine ⟨rfl, (k / 128).toNat, by omega, k / 128, z, i3, _, ?_, ?_, ho3, ?_, ?_, ?_, ?_, by omega, rfl⟩
        · (first | with_reducible rfl | (simp (disch := first | exact dz | fail) only [go_sem, i_0, i_1, i_2, i_3, i_4, i_5, i_6, i_7, i_8, n_0, n_1, n_2, n_3, n_4, n_5, reduceCtorEq, reduceIte, t2, t9] <;> first | with_reducible rfl | (congr 1 <;> omega)))
        · (first | with_reducible rfl | (simp (disch := first | exact dz | fail) only [go_sem, i_0, i_1, i_2, i_3, i_4, i_5, i_6, i_7, i_8, n_0, n_1, n_2, n_3, n_4, n_5, reduceCtorEq, reduceIte, t2, t9] <;> first | with_reducible rfl | (congr 1 <;> omega)))
        · have := hk.1; omega
        · exact ⟨by have := hk.1; omega, fun j hj => (hf3 j (by have := hk.1; omega) (by omega)).trans (hk.2 j hj)⟩
        · rw [← hl, putL_step (n := k) (by omega), List.append_assoc, show k % 256 % 128 = k % 128 from by omega]; rfl
        · simp; omega
      · refine Try.a833 hoa (by omega) (by omega) (by omega) fun z h3 i3 ho3 hi3 hz3 hf3 => ?_
        refine vI ?_; repeat' (first
      | with_reducible first | refine Nx.h ?_ | (refine hK _ _ ?_; clear hK K)
      | ((with_reducible refine q_eo ?_ ?_); exact rfl)
      | ((with_reducible first | refine vO ?_ | (refine Ny.h ?_; intro K hK) | (refine c_drw (by decide +kernel) ?_; intro K hK) | refine c_cond ?_ | show endW _ _ _ _ _ | (refine Nz.h ?_ ?_ <;> intro _) | fail) <;> try simp (disch := first | exact dz | fail) only [go_sem, i_0, i_1, i_2, i_3, i_4, i_5, i_6, i_7, i_8, n_0, n_1, n_2, n_3, n_4, n_5, reduceCtorEq, reduceIte, t2, t9]))
        refine ⟨z, rfl, ⟨i3, ?_, ?_⟩, ?_⟩
        · have := hk.1; omega
        · rw [← hl, putL_end (n := k) (by omega) (by omega)]; exact ho3
        · exact ⟨by have := hk.1; omega, fun j hj => (hf3 j (by have := hk.1; omega) (by omega)).trans (hk.2 j hj)⟩
  · exact PutK_err (by rw [if_pos (by omega)])
end Go.Proofs.Ytmpeofjfagdgkaa
