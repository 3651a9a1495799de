/- pack: the encoder: the reference's find; update, Limit, Held, New, of code and reference. -/
import Derived.Test.YtmpeofjfagdgkaaPkEnc
set_option linter.unusedSimpArgs false
set_option linter.unusedVariables false
namespace Go.Proofs.Ytmpeofjfagdgkaa
open Go.Abs
open Int renaming reduceEq → i_0, reduceLE → i_1, reduceLT → i_2, reduceNe → i_3, reduceNeg → i_4, reduceAdd → i_5, reduceSub → i_6, reduceMul → i_7, reduceToNat → i_8
open Nat renaming reduceLT → n_0, reduceLeDiff → n_1, reduceEqDiff → n_2, reduceAdd → n_3, reduceSub → n_4, reduceMul → n_5
set_option maxRecDepth 100000
theorem ow_re {α : Type} {E : Enc α} {h : AH} {i : Nat} {a : AV} {l : List α} (o : Ow E h i a l) (hi : ¬ i < h.size) (h' : AH) (j : Nat) : Ow E h' j a l := by
  cases o with
  | nil0 ex z => exact .nil0 ex z
  | blk n cap ex l junk q hs hn hc hj => exact absurd hs hi
def updS (s : En) (n : Int) : En := { s with l := shr n s.l, known := n }
set_option maxHeartbeats 4000000 in
theorem update (e p i : Nat) (s : En) (n : Int) (b : AV) (j : Nat) (l : List UInt8) (h0 : AH) (he : EnC h0 e p i s) (hl : s.l.length ≤ 1000000) (hn : 0 ≤ n ∧ n ≤ 65536) (hb : Ow E8 h0 j b l) (hbl : l.length ≤ 1000) (hj : ¬ j = e ∧ ¬ j = p ∧ ¬ j = i) :
    callW Try.prog Try.T 36 [.ptr (some (e, 0)), b, .int .i64 n] h0 fun v h' => EnC h' e p i (updS s n) ∧ ∃ j', Ow E8 h' j' v (l ++ numB 5 32 n) ∧ (j' = j ∨ h0.size ≤ j') ∧ h0.size ≤ h'.size ∧ ∀ x, x < h0.size → ¬ x = j → ¬ x = e → ¬ x = p → ¬ x = i → h'.get x = h0.get x := by
  refine callW_hide fun KK hKK => ?_
  obtain ⟨g, ⟨a, ta⟩, es, ep, ei⟩ := he
  have tps := ta.ps
  have tis := ta.is
  obtain ⟨j1, j2, j3⟩ := hj
  refine callW_in (n := 20) (rs := [.tmp 6]) (m := 20) Try.func36 rfl rfl rfl rfl fun tr ht => ?_; have e0 := ht 0 _ rfl; have e1 := ht 1 _ rfl; have e2 := ht 2 _ rfl; clear ht
  repeat' (first
      | with_reducible first | refine Nx.h ?_ | (refine hK _ _ ?_; clear hK K)
      | ((with_reducible refine q_eo ?_ ?_); exact rfl)
      | ((with_reducible first | (refine Ny.h ?_; intro K hK) | (refine c_drw (by decide +kernel) ?_; intro K hK) | refine c_cond ?_ | show endW _ _ _ _ _ | (refine Nz.h ?_ ?_ <;> intro _) | fail) <;> try simp (disch := first | exact dz | fail) only [go_sem, i_0, i_1, i_2, i_3, i_4, i_5, i_6, i_7, i_8, n_0, n_1, n_2, n_3, n_4, n_5, reduceCtorEq, reduceIte, e0, e1, e2, g]))
  refine cM_hide fun h1 hh1 => ?_
  have z1 : h1.size = h0.size := by rw [hh1]; simp (disch := first | exact dz | fail) only [go_sem, i_0, i_1, i_2, i_3, i_4, i_5, i_6, i_7, i_8, n_0, n_1, n_2, n_3, n_4, n_5, reduceCtorEq, reduceIte]
  have g1 : h1.get e = some (.cells [.ptr (some (p, 0)), .int .i64 n, .int .i64 s.least, .int .i64 s.last]) := by rw [hh1]; simp (disch := first | exact dz | fail) only [go_sem, i_0, i_1, i_2, i_3, i_4, i_5, i_6, i_7, i_8, n_0, n_1, n_2, n_3, n_4, n_5, reduceCtorEq, reduceIte]
  have f1 : ∀ x, ¬ x = e → h1.get x = h0.get x := fun x hx => by rw [hh1, AH.get_set, if_neg hx]
  clear hh1
  have ta1 := ta.frame (h' := h1) (f1 p (fun h => ep h.symm)) (f1 i (fun h => ei h.symm)) (by omega)
  refine callM_of (tResize p i s.l s.known n a h1 ta1 hl) ?_
  rintro v h2 ⟨rfl, b2, a2, ta2⟩
  have hr : rsz n s.known s.l = (0, shr n s.l, n) := by unfold rsz; rw [if_neg (by omega)]
  rw [hr] at ta2
  have z2 := b2.1
  have ob : Ow E8 h2 j b l := hb.frame (fun hjs => by rw [b2.2 j (by omega) j2 j3, f1 j j1]) (by omega)
  have g2 := (b2.2 e (by omega) ep ei).trans g1
  refine vI ?_; repeat' (first
      | with_reducible first | refine Nx.h ?_ | (refine hK _ _ ?_; clear hK K)
      | ((with_reducible refine q_eo ?_ ?_); exact rfl)
      | ((with_reducible first | refine vO ?_ | (refine Ny.h ?_; intro K hK) | (refine c_drw (by decide +kernel) ?_; intro K hK) | refine c_cond ?_ | show endW _ _ _ _ _ | (refine Nz.h ?_ ?_ <;> intro _) | fail) <;> try simp (disch := first | exact dz | fail) only [go_sem, i_0, i_1, i_2, i_3, i_4, i_5, i_6, i_7, i_8, n_0, n_1, n_2, n_3, n_4, n_5, reduceCtorEq, reduceIte, e0, e1, e2]))
  refine callM_of (number b j l 5 32 n h2 ob (by omega)) ?_
  rintro v h3 ⟨j', oj', hj', z3, f3⟩
  refine vI ?_; repeat' (first
      | with_reducible first | refine Nx.h ?_ | (refine hK _ _ ?_; clear hK K)
      | ((with_reducible refine q_eo ?_ ?_); exact rfl)
      | ((with_reducible first | refine vO ?_ | (refine Ny.h ?_; intro K hK) | (refine c_drw (by decide +kernel) ?_; intro K hK) | refine c_cond ?_ | show endW _ _ _ _ _ | (refine Nz.h ?_ ?_ <;> intro _) | fail) <;> try simp (disch := first | exact dz | fail) only [go_sem, i_0, i_1, i_2, i_3, i_4, i_5, i_6, i_7, i_8, n_0, n_1, n_2, n_3, n_4, n_5, reduceCtorEq, reduceIte, e0, e1, e2]))
  refine hKK _ _ ⟨⟨(f3 e (by omega) (by omega)).trans g2, ⟨a2, ta2.frame (f3 p ta2.ps (by omega)) (f3 i ta2.is (by omega)) z3⟩, by omega, ep, ei⟩, j', oj', by omega, by omega, fun x hx hxj hxe hxp hxi => by rw [f3 x (by omega) hxj, b2.2 x (by omega) hxp hxi, f1 x hxe]⟩
/-- The lesser of two. -/
def mn (x y : Int) : Int := if y < x then y else x
theorem minA {T : Tys} {h : AH} {ts : List TypeId} {x y : Int} : builtinA T h .min ts [.int .i64 x, .int .i64 y] = some (.int .i64 (mn x y), h) := rfl
def limE (m : Int) : Int := if m < 0 ∨ m ≥ 4294967296 then 1 else 0
def limS (s : En) (m : Int) : En := if m < 0 ∨ m ≥ 4294967296 then s else { s with last := mn m 4096, least := mn s.least (mn m 4096) }
theorem But3.refl (e p i : Nat) (h : AH) : But3 e p i h h := ⟨Nat.le_refl _, fun _ _ _ _ _ => rfl⟩
set_option maxHeartbeats 4000000 in
theorem limit (e p i : Nat) (s : En) (m : Int) (h0 : AH) (he : EnC h0 e p i s) :
    callW Try.prog Try.T 18 [.ptr (some (e, 0)), .int .i64 m] h0 fun v h' => v = .int .i64 (limE m) ∧ EnC h' e p i (limS s m) ∧ But3 e p i h0 h' := by
  refine callW_hide fun KK hKK => ?_
  have he0 := he
  obtain ⟨g, ⟨a, ta⟩, es, ep, ei⟩ := he
  unfold limE limS at hKK
  refine callW_in (n := 32) (rs := [.tmp 4]) (m := 32) Try.func18 rfl rfl rfl rfl fun tr ht => ?_; have e0 := ht 0 _ rfl; have e1 := ht 1 _ rfl; clear ht
  by_cases c1 : m < 0
  · rw [if_pos (.inl c1), if_pos (.inl c1)] at hKK
    repeat' (first
      | with_reducible first | refine Nx.h ?_ | (refine hK _ _ ?_; clear hK K)
      | ((with_reducible refine q_eo ?_ ?_); exact rfl)
      | ((with_reducible first | (refine Ny.h ?_; intro K hK) | (refine c_drw (by decide +kernel) ?_; intro K hK) | refine c_cond ?_ | show endW _ _ _ _ _ | (refine Nz.h ?_ ?_ <;> intro _) | fail) <;> try simp (disch := first | exact dz | fail) only [go_sem, i_0, i_1, i_2, i_3, i_4, i_5, i_6, i_7, i_8, n_0, n_1, n_2, n_3, n_4, n_5, reduceCtorEq, reduceIte, e0, e1, g]))
    exact hKK _ _ ⟨rfl, he0, But3.refl _ _ _ _⟩
  · by_cases c2 : m ≥ 4294967296
    · rw [if_pos (.inr c2), if_pos (.inr c2)] at hKK
      repeat' (first
      | with_reducible first | refine Nx.h ?_ | (refine hK _ _ ?_; clear hK K)
      | ((with_reducible refine q_eo ?_ ?_); exact rfl)
      | ((with_reducible first | (refine Ny.h ?_; intro K hK) | (refine c_drw (by decide +kernel) ?_; intro K hK) | refine c_cond ?_ | show endW _ _ _ _ _ | (refine Nz.h ?_ ?_ <;> intro _) | fail) <;> try simp (disch := first | exact dz | fail) only [go_sem, i_0, i_1, i_2, i_3, i_4, i_5, i_6, i_7, i_8, n_0, n_1, n_2, n_3, n_4, n_5, reduceCtorEq, reduceIte, e0, e1, g]))
      exact hKK _ _ ⟨rfl, he0, But3.refl _ _ _ _⟩
    · rw [if_neg (by omega), if_neg (by omega)] at hKK
      repeat' (first
      | with_reducible first | refine Nx.h ?_ | (refine hK _ _ ?_; clear hK K)
      | ((with_reducible refine q_eo ?_ ?_); exact rfl)
      | ((with_reducible first | (refine Ny.h ?_; intro K hK) | (refine c_drw (by decide +kernel) ?_; intro K hK) | refine c_cond ?_ | show endW _ _ _ _ _ | (refine Nz.h ?_ ?_ <;> intro _) | fail) <;> try simp (disch := first | exact dz | fail) only [go_sem, i_0, i_1, i_2, i_3, i_4, i_5, i_6, i_7, i_8, n_0, n_1, n_2, n_3, n_4, n_5, reduceCtorEq, reduceIte, e0, e1, g, minA]))
      refine hKK _ _ ⟨rfl, ⟨by rw [AH.get_set, if_pos rfl], ⟨a, ta.frame (by rw [AH.get_set, if_neg (fun h => ep h.symm), AH.get_set, if_neg (fun h => ep h.symm)]) (by rw [AH.get_set, if_neg (fun h => ei h.symm), AH.get_set, if_neg (fun h => ei h.symm)]) (by simp)⟩, by simp only [AH.size_set]; exact es, ep, ei⟩, ⟨by simp, fun b _ hb _ _ => by rw [AH.get_set, if_neg hb, AH.get_set, if_neg hb]⟩⟩
theorem held (e p i : Nat) (s : En) (h0 : AH) (he : EnC h0 e p i s) :
    callW Try.prog Try.T 22 [.ptr (some (e, 0))] h0 fun v h' => v = .int .i64 (W (szs s.l)) ∧ h' = h0 := by
  obtain ⟨g, ⟨a, ta⟩, es, ep, ei⟩ := he
  refine callW_in (n := 10) (rs := [.tmp 2]) (m := 10) Try.func22 rfl rfl rfl rfl fun tr ht => ?_; have e0 := ht 0 _ rfl; clear ht
  repeat' (first
      | with_reducible first | refine Nx.h ?_ | (refine hK _ _ ?_; clear hK K)
      | ((with_reducible refine q_eo ?_ ?_); exact rfl)
      | ((with_reducible first | (refine Ny.h ?_; intro K hK) | (refine c_drw (by decide +kernel) ?_; intro K hK) | refine c_cond ?_ | show endW _ _ _ _ _ | (refine Nz.h ?_ ?_ <;> intro _) | fail) <;> try simp (disch := first | exact dz | fail) only [go_sem, i_0, i_1, i_2, i_3, i_4, i_5, i_6, i_7, i_8, n_0, n_1, n_2, n_3, n_4, n_5, reduceCtorEq, reduceIte, e0, g]))
  refine callM_of (tSize p i s.l s.known a h0 ta) ?_
  rintro v h1 ⟨rfl, rfl⟩
  refine vI ?_; repeat' (first
      | with_reducible first | refine Nx.h ?_ | (refine hK _ _ ?_; clear hK K)
      | ((with_reducible refine q_eo ?_ ?_); exact rfl)
      | ((with_reducible first | refine vO ?_ | (refine Ny.h ?_; intro K hK) | (refine c_drw (by decide +kernel) ?_; intro K hK) | refine c_cond ?_ | show endW _ _ _ _ _ | (refine Nz.h ?_ ?_ <;> intro _) | fail) <;> try simp (disch := first | exact dz | fail) only [go_sem, i_0, i_1, i_2, i_3, i_4, i_5, i_6, i_7, i_8, n_0, n_1, n_2, n_3, n_4, n_5, reduceCtorEq, reduceIte, e0, g]))
def en0 : En := { l := [], known := 4096, least := 4096, last := 4096 }
set_option maxHeartbeats 4000000 in
theorem pnew (i : Nat) (h0 : AH) (hi : i < h0.size) : callW Try.prog Try.T 16 [] h0 fun v h' => ∃ e p, v = .ptr (some (e, 0)) ∧ h0.size ≤ e ∧ h0.size ≤ p ∧ e < h'.size ∧ p < h'.size ∧ EnC h' e p i en0 ∧ Keeps h0.size h0 h' := by
  refine callW_hide fun KK hKK => ?_
  refine callW_in (n := 10) (rs := [.tmp 0]) (m := 10) Try.func16 rfl rfl rfl rfl fun tr ht => ?_; clear ht
  repeat' (first
      | with_reducible first | refine Nx.h ?_ | (refine hK _ _ ?_; clear hK K)
      | ((with_reducible refine q_eo ?_ ?_); exact rfl)
      | ((with_reducible first | (refine Ny.h ?_; intro K hK) | (refine c_drw (by decide +kernel) ?_; intro K hK) | refine c_cond ?_ | show endW _ _ _ _ _ | (refine Nz.h ?_ ?_ <;> intro _) | fail) <;> try simp (disch := first | exact dz | fail) only [go_sem, i_0, i_1, i_2, i_3, i_4, i_5, i_6, i_7, i_8, n_0, n_1, n_2, n_3, n_4, n_5, reduceCtorEq, reduceIte]))
  refine callM_of (tNew 4096 i h0 hi) ?_
  rintro v h1 ⟨(⟨_, _, rfl, ta⟩ | ⟨hc, _⟩), k1⟩
  · have z1 := ta.ps
    refine vI ?_; repeat' (first
      | with_reducible first | refine Nx.h ?_ | (refine hK _ _ ?_; clear hK K)
      | ((with_reducible refine q_eo ?_ ?_); exact rfl)
      | ((with_reducible first | refine vO ?_ | (refine Ny.h ?_; intro K hK) | (refine c_drw (by decide +kernel) ?_; intro K hK) | refine c_cond ?_ | show endW _ _ _ _ _ | (refine Nz.h ?_ ?_ <;> intro _) | fail) <;> try simp (disch := first | exact dz | fail) only [go_sem, i_0, i_1, i_2, i_3, i_4, i_5, i_6, i_7, i_8, n_0, n_1, n_2, n_3, n_4, n_5, reduceCtorEq, reduceIte]))
    refine hKK _ _ ⟨h1.size, h0.size, rfl, k1.1, Nat.le_refl _, by simp, by simp; omega, ⟨by rw [AH.get_push, if_pos rfl]; rfl, ⟨_, ta.frame (by rw [AH.get_push, if_neg (by omega)]) (by rw [AH.get_push, if_neg (by omega)]) (by simp)⟩, by simp, by omega, by omega⟩, k1.push (by omega) _⟩
  · omega
set_option maxHeartbeats 4000000 in
theorem rsizeF (a : AV) (i : Nat) (l : List Fd) (h0 : AH) (ha : Sl EF h0 i a l) (hl : l.length ≤ 140737488355328) :
    callW Try.prog Try.T 26 [a] h0 fun v h' => v = .int .i64 (W (szs l)) ∧ h' = h0 := by
  refine callW_hide fun KK hKK => ?_
  refine callW_in (n := 28) (rs := [.tmp 2]) (m := 28) Try.func26 rfl rfl rfl rfl fun tr ht => ?_; have e0 := ht 0 _ rfl; clear ht
  repeat' (first
      | with_reducible first | refine Nx.h ?_ | (refine hK _ _ ?_; clear hK K)
      | ((with_reducible refine q_eo ?_ ?_); exact rfl)
      | ((with_reducible first | (refine Ny.h ?_; intro K hK) | (refine c_drw (by decide +kernel) ?_; intro K hK) | refine c_cond ?_ | show endW _ _ _ _ _ | (refine Nz.h ?_ ?_ <;> intro _) | fail) <;> try simp (disch := first | exact dz | fail) only [go_sem, i_0, i_1, i_2, i_3, i_4, i_5, i_6, i_7, i_8, n_0, n_1, n_2, n_3, n_4, n_5, reduceCtorEq, reduceIte, e0]))
  refine c_loopF 134217720 (fun m tm h => ∃ (k : Nat), tm.get 3 = .int .i64 (W (szs (l.take k))) ∧ tm.get 4 = .int .i64 k ∧ k ≤ l.length ∧ h = h0 ∧ m = l.length - k) (l.length) (by kernel_rfl) ?_ ?_
  · refine ⟨0, ?_, ?_, by omega, rfl, rfl⟩
    · (first | with_reducible rfl | (simp (disch := first | exact dz | fail) only [go_sem, i_0, i_1, i_2, i_3, i_4, i_5, i_6, i_7, i_8, n_0, n_1, n_2, n_3, n_4, n_5, reduceCtorEq, reduceIte] <;> first | with_reducible rfl | (congr 1 <;> omega)))
    · (first | with_reducible rfl | (simp (disch := first | exact dz | fail) only [go_sem, i_0, i_1, i_2, i_3, i_4, i_5, i_6, i_7, i_8, n_0, n_1, n_2, n_3, n_4, n_5, reduceCtorEq, reduceIte] <;> first | with_reducible rfl | (congr 1 <;> omega)))
  · rintro m tr2 h2 ho ⟨k, t3, t4, hk, rfl, rfl⟩
    have k0 := ho 0 (Seen.of rfl); simp (disch := first | exact dz | fail) only [go_sem, i_0, i_1, i_2, i_3, i_4, i_5, i_6, i_7, i_8, n_0, n_1, n_2, n_3, n_4, n_5, reduceCtorEq, reduceIte, e0] at k0
    by_cases hc : k < l.length
    · rcases hx : l[k]! with ⟨x1, x2, x3⟩
      have hs := szs_take (bang_some hc)
      rw [hx] at hs
      have l0 : loadA Try.T h2 9 (a.at EF.sz 0 (k : Int)) = some (.str x1) := ha.ld (by omega) (by omega) (by rw [Int.toNat_natCast, hx]; rfl) (by decide) rfl rfl
      have l1 : loadA Try.T h2 9 (a.at EF.sz 1 (k : Int)) = some (.str x2) := ha.ld (by omega) (by omega) (by rw [Int.toNat_natCast, hx]; rfl) (by decide) rfl rfl
      repeat' (first
      | with_reducible first | refine Nx.h ?_ | (refine hK _ _ ?_; clear hK K)
      | ((with_reducible refine q_eo ?_ ?_); exact rfl)
      | ((with_reducible first | (refine Ny.h ?_; intro K hK) | (refine c_drw (by decide +kernel) ?_; intro K hK) | refine c_cond ?_ | show endW _ _ _ _ _ | (refine Nz.h ?_ ?_ <;> intro _) | fail) <;> try simp (disch := first | exact dz | fail) only [go_sem, i_0, i_1, i_2, i_3, i_4, i_5, i_6, i_7, i_8, n_0, n_1, n_2, n_3, n_4, n_5, reduceCtorEq, reduceIte, k0, t3, t4, l0, l1]))
      try dsimp only
      refine ⟨rfl, l.length - (k + 1), by omega, k + 1, ?_, ?_, by omega, rfl, rfl⟩
      · have : IntKind.i64.wrap (W (szs (List.take k l)) + IntKind.i64.wrap (IntKind.i64.wrap ((x1.length : Int) + x2.length) + 32)) = W (szs (List.take (k + 1) l)) := by
          rw [hs]; show W (W _ + W (W _ + 32)) = _
          rw [W_addl, W_addl, W_addr]; rfl
        rw [this]
        (first | with_reducible rfl | (simp (disch := first | exact dz | fail) only [go_sem, i_0, i_1, i_2, i_3, i_4, i_5, i_6, i_7, i_8, n_0, n_1, n_2, n_3, n_4, n_5, reduceCtorEq, reduceIte] <;> first | with_reducible rfl | (congr 1 <;> omega)))
      · (first | with_reducible rfl | (simp (disch := first | exact dz | fail) only [go_sem, i_0, i_1, i_2, i_3, i_4, i_5, i_6, i_7, i_8, n_0, n_1, n_2, n_3, n_4, n_5, reduceCtorEq, reduceIte] <;> first | with_reducible rfl | (congr 1 <;> omega)))
    · have : List.take k l = l := List.take_of_length_le (by omega)
      rw [this] at t3
      repeat' (first
      | with_reducible first | refine Nx.h ?_ | (refine hK _ _ ?_; clear hK K)
      | ((with_reducible refine q_eo ?_ ?_); exact rfl)
      | ((with_reducible first | (refine Ny.h ?_; intro K hK) | (refine c_drw (by decide +kernel) ?_; intro K hK) | refine c_cond ?_ | show endW _ _ _ _ _ | (refine Nz.h ?_ ?_ <;> intro _) | fail) <;> try simp (disch := first | exact dz | fail) only [go_sem, i_0, i_1, i_2, i_3, i_4, i_5, i_6, i_7, i_8, n_0, n_1, n_2, n_3, n_4, n_5, reduceCtorEq, reduceIte, k0, t3, t4]))
      exact hKK _ _ ⟨rfl, rfl⟩
end Go.Proofs.Ytmpeofjfagdgkaa
