/- unpack: a decoder's calls, of the code. -/
import Derived.Test.YtmpeofjfagdgkaaUpBlock
set_option linter.unusedSimpArgs false
set_option linter.unusedVariables false
namespace Go.Proofs.Ytmpeofjfagdgkaa
open Go.Abs
open Int renaming reduceEq → i_0, reduceLE → i_1, reduceLT → i_2, reduceNe → i_3, reduceNeg → i_4, reduceAdd → i_5, reduceSub → i_6, reduceMul → i_7, reduceToNat → i_8
open Nat renaming reduceLT → n_0, reduceLeDiff → n_1, reduceEqDiff → n_2, reduceAdd → n_3, reduceSub → n_4, reduceMul → n_5
set_option maxRecDepth 100000
theorem take_eq_succ {a b : List Fd} {k : Nat} (ha : k < a.length) (hb : k < b.length) (h : a.take k = b.take k) (he : a[k]! = b[k]!) : a.take (k + 1) = b.take (k + 1) := by
  rw [List.take_add_one, List.take_add_one, h, bang_some ha, bang_some hb, he]
set_option maxHeartbeats 4000000 in
theorem eqFields (a b : AV) (i j : Nat) (x y : List Fd) (h0 : AH) (ha : Sl EF h0 i a x) (hb : Sl EF h0 j b y) (hx : x.length ≤ 100000000) :
    callW Try.prog Try.T 32 [a, b] h0 fun v h' => v = .bool (decide (x = y)) ∧ h' = h0 := by
  refine callW_in (n := 54) (rs := [.tmp 4]) (m := 54) Try.func32 rfl rfl rfl rfl fun tr ht => ?_; have e0 := ht 0 _ rfl; have e1 := ht 1 _ rfl; clear ht
  by_cases hl : x.length = y.length
  · repeat' (first
      | with_reducible first | refine Nx.h ?_ | (refine hK _ _ ?_; clear hK K)
      | ((with_reducible refine q_eo ?_ ?_); exact rfl)
      | ((with_reducible first | (refine Ny.h ?_; intro K hK) | (refine c_drw (by decide +kernel) ?_; intro K hK) | refine c_cond ?_ | show endW _ _ _ _ _ | (refine Nz.h ?_ ?_ <;> intro _) | fail) <;> try simp (disch := first | exact dz | fail) only [go_sem, i_0, i_1, i_2, i_3, i_4, i_5, i_6, i_7, i_8, n_0, n_1, n_2, n_3, n_4, n_5, reduceCtorEq, reduceIte, e0, e1]))
    refine c_loopF 18014398509479984 (fun m tm h => ∃ (k : Nat), tm.get 5 = .int .i64 k ∧ k ≤ x.length ∧ x.take k = y.take k ∧ h = h0 ∧ m = x.length - k) (x.length) (by kernel_rfl) ?_ ?_
    · refine ⟨0, ?_, by omega, rfl, rfl, rfl⟩
      (first | with_reducible rfl | (simp (disch := first | exact dz | fail) only [go_sem, i_0, i_1, i_2, i_3, i_4, i_5, i_6, i_7, i_8, n_0, n_1, n_2, n_3, n_4, n_5, reduceCtorEq, reduceIte] <;> first | with_reducible rfl | (congr 1 <;> omega)))
    · rintro m tr2 h2 ho ⟨k, t5, hk, ht, rfl, rfl⟩
      have k0 := ho 0 (Seen.of rfl); simp (disch := first | exact dz | fail) only [go_sem, i_0, i_1, i_2, i_3, i_4, i_5, i_6, i_7, i_8, n_0, n_1, n_2, n_3, n_4, n_5, reduceCtorEq, reduceIte, e0, e1] at k0; have k1 := ho 1 (Seen.of rfl); simp (disch := first | exact dz | fail) only [go_sem, i_0, i_1, i_2, i_3, i_4, i_5, i_6, i_7, i_8, n_0, n_1, n_2, n_3, n_4, n_5, reduceCtorEq, reduceIte, e0, e1] at k1
      by_cases hc : k < x.length
      · rcases hx1 : x[k]! with ⟨x1, x2, x3⟩
        rcases hy1 : y[k]! with ⟨y1, y2, y3⟩
        have lx0 : loadA Try.T h2 9 (a.at EF.sz 0 (k : Int)) = some (.str x1) := ha.ld (by omega) (by omega) (by rw [Int.toNat_natCast, hx1]; rfl) (by decide) rfl rfl
        have lx1 : loadA Try.T h2 9 (a.at EF.sz 1 (k : Int)) = some (.str x2) := ha.ld (by omega) (by omega) (by rw [Int.toNat_natCast, hx1]; rfl) (by decide) rfl rfl
        have lx2 : loadA Try.T h2 4 (a.at EF.sz 2 (k : Int)) = some (.bool x3) := ha.ld (by omega) (by omega) (by rw [Int.toNat_natCast, hx1]; rfl) (by decide) rfl rfl
        have ly0 : loadA Try.T h2 9 (b.at EF.sz 0 (k : Int)) = some (.str y1) := hb.ld (by omega) (by omega) (by rw [Int.toNat_natCast, hy1]; rfl) (by decide) rfl rfl
        have ly1 : loadA Try.T h2 9 (b.at EF.sz 1 (k : Int)) = some (.str y2) := hb.ld (by omega) (by omega) (by rw [Int.toNat_natCast, hy1]; rfl) (by decide) rfl rfl
        have ly2 : loadA Try.T h2 4 (b.at EF.sz 2 (k : Int)) = some (.bool y3) := hb.ld (by omega) (by omega) (by rw [Int.toNat_natCast, hy1]; rfl) (by decide) rfl rfl
        by_cases he : x[k]! = y[k]!
        · have h1 := he
          rw [hx1, hy1] at h1
          simp only [Prod.mk.injEq] at h1
          obtain ⟨rfl, rfl, rfl⟩ := h1
          repeat' (first
      | with_reducible first | refine Nx.h ?_ | (refine hK _ _ ?_; clear hK K)
      | ((with_reducible refine q_eo ?_ ?_); exact rfl)
      | ((with_reducible first | (refine Ny.h ?_; intro K hK) | (refine c_drw (by decide +kernel) ?_; intro K hK) | refine c_cond ?_ | show endW _ _ _ _ _ | (refine Nz.h ?_ ?_ <;> intro _) | fail) <;> try simp (disch := first | exact dz | fail) only [go_sem, i_0, i_1, i_2, i_3, i_4, i_5, i_6, i_7, i_8, n_0, n_1, n_2, n_3, n_4, n_5, reduceCtorEq, reduceIte, k0, k1, t5, lx0, lx1, lx2, ly0, ly1, ly2]))
          try dsimp only
          refine ⟨rfl, x.length - (k + 1), by omega, k + 1, ?_, by omega, take_eq_succ hc (by omega) ht he, rfl, rfl⟩
          (first | with_reducible rfl | (simp (disch := first | exact dz | fail) only [go_sem, i_0, i_1, i_2, i_3, i_4, i_5, i_6, i_7, i_8, n_0, n_1, n_2, n_3, n_4, n_5, reduceCtorEq, reduceIte] <;> first | with_reducible rfl | (congr 1 <;> omega)))
        · have hne : ¬ x = y := fun e => he (by rw [e])
          rw [hx1, hy1] at he
          simp only [Prod.mk.injEq, not_and] at he
          by_cases h1 : x1 = y1
          · by_cases h2 : x2 = y2
            · have h3 := he h1 h2
              have h3' : (x3 == y3) = false := by simpa using h3
              repeat' (first
      | with_reducible first | refine Nx.h ?_ | (refine hK _ _ ?_; clear hK K)
      | ((with_reducible refine q_eo ?_ ?_); exact rfl)
      | ((with_reducible first | (refine Ny.h ?_; intro K hK) | (refine c_drw (by decide +kernel) ?_; intro K hK) | refine c_cond ?_ | show endW _ _ _ _ _ | (refine Nz.h ?_ ?_ <;> intro _) | fail) <;> try simp (disch := first | exact dz | fail) only [go_sem, i_0, i_1, i_2, i_3, i_4, i_5, i_6, i_7, i_8, n_0, n_1, n_2, n_3, n_4, n_5, reduceCtorEq, reduceIte, k0, k1, t5, lx0, lx1, lx2, ly0, ly1, ly2, hne, h1, h2, h3']))
            · repeat' (first
      | with_reducible first | refine Nx.h ?_ | (refine hK _ _ ?_; clear hK K)
      | ((with_reducible refine q_eo ?_ ?_); exact rfl)
      | ((with_reducible first | (refine Ny.h ?_; intro K hK) | (refine c_drw (by decide +kernel) ?_; intro K hK) | refine c_cond ?_ | show endW _ _ _ _ _ | (refine Nz.h ?_ ?_ <;> intro _) | fail) <;> try simp (disch := first | exact dz | fail) only [go_sem, i_0, i_1, i_2, i_3, i_4, i_5, i_6, i_7, i_8, n_0, n_1, n_2, n_3, n_4, n_5, reduceCtorEq, reduceIte, k0, k1, t5, lx0, lx1, lx2, ly0, ly1, ly2, hne, h1, h2]))
          · repeat' (first
      | with_reducible first | refine Nx.h ?_ | (refine hK _ _ ?_; clear hK K)
      | ((with_reducible refine q_eo ?_ ?_); exact rfl)
      | ((with_reducible first | (refine Ny.h ?_; intro K hK) | (refine c_drw (by decide +kernel) ?_; intro K hK) | refine c_cond ?_ | show endW _ _ _ _ _ | (refine Nz.h ?_ ?_ <;> intro _) | fail) <;> try simp (disch := first | exact dz | fail) only [go_sem, i_0, i_1, i_2, i_3, i_4, i_5, i_6, i_7, i_8, n_0, n_1, n_2, n_3, n_4, n_5, reduceCtorEq, reduceIte, k0, k1, t5, lx0, lx1, lx2, ly0, ly1, ly2, hne, h1]))
      · have : x = y := by rw [← List.take_length (l := x), show x.length = k by omega, ht, show k = y.length by omega, List.take_length]
        repeat' (first
      | with_reducible first | refine Nx.h ?_ | (refine hK _ _ ?_; clear hK K)
      | ((with_reducible refine q_eo ?_ ?_); exact rfl)
      | ((with_reducible first | (refine Ny.h ?_; intro K hK) | (refine c_drw (by decide +kernel) ?_; intro K hK) | refine c_cond ?_ | show endW _ _ _ _ _ | (refine Nz.h ?_ ?_ <;> intro _) | fail) <;> try simp (disch := first | exact dz | fail) only [go_sem, i_0, i_1, i_2, i_3, i_4, i_5, i_6, i_7, i_8, n_0, n_1, n_2, n_3, n_4, n_5, reduceCtorEq, reduceIte, k0, k1, t5, this]))
  · have hne : ¬ x = y := fun e => hl (by rw [e])
    repeat' (first
      | with_reducible first | refine Nx.h ?_ | (refine hK _ _ ?_; clear hK K)
      | ((with_reducible refine q_eo ?_ ?_); exact rfl)
      | ((with_reducible first | (refine Ny.h ?_; intro K hK) | (refine c_drw (by decide +kernel) ?_; intro K hK) | refine c_cond ?_ | show endW _ _ _ _ _ | (refine Nz.h ?_ ?_ <;> intro _) | fail) <;> try simp (disch := first | exact dz | fail) only [go_sem, i_0, i_1, i_2, i_3, i_4, i_5, i_6, i_7, i_8, n_0, n_1, n_2, n_3, n_4, n_5, reduceCtorEq, reduceIte, e0, e1, hne]))
/-- begun, where nothing is yet. -/
theorem begun6 {K : AV → AH → Prop} (hk : ∀ h', 3 < h'.size → K (.bool true) h') : callW Try.prog Try.T 27 [] AH.empty K := by
  have h : ((callA Try.prog Try.T 200 27 [] AH.empty).map fun r => (r.1.same (.bool true), decide (3 < r.2.size))) = some (true, true) := by kernel_rfl
  cases hc : callA Try.prog Try.T 200 27 [] AH.empty with
  | none => rw [hc] at h; simp at h
  | some r =>
    obtain ⟨v, h'⟩ := r
    rw [hc] at h
    simp only [Option.map_some, Option.some.injEq, Prod.mk.injEq, decide_eq_true_eq] at h
    have := AV.same_eq _ _ h.1
    subst this
    exact callW_eval hc (hk h' h.2)
/-- A decoder, new. -/
def rdN : Rd := { l := [], max := 4096, lim := 4096, owed := false, b := [], u := 0, fl := false, size := 0, out := [], over := false }
/-- A decoder, ahead of a block. -/
def rd0 (s : Rd) (b : List UInt8) : Rd := { s with b := b, u := 0, fl := false, size := 0, out := [], over := false }
set_option maxHeartbeats 4000000 in
theorem unew (i : Nat) (h0 : AH) (hi : i < h0.size) : callW Try.prog Try.T 28 [.int .i64 4096] h0 fun v h' => ∃ d p, v = .tuple [.ptr (some (d, 0)), .int .i64 0] ∧ h0.size ≤ d ∧ h0.size ≤ p ∧ d < h'.size ∧ p < h'.size ∧ Dc h' d p i rdN ∧ Keeps h0.size h0 h' := by
  refine callW_hide fun KK hKK => ?_
  refine callW_in (n := 20) (rs := [.tmp 2, .tmp 3]) (m := 20) Try.func28 rfl rfl rfl rfl fun tr ht => ?_; have e0 := ht 0 _ rfl; clear ht
  repeat' (first
      | with_reducible first | refine Nx.h ?_ | (refine hK _ _ ?_; clear hK K)
      | ((with_reducible refine q_eo ?_ ?_); exact rfl)
      | ((with_reducible first | (refine Ny.h ?_; intro K hK) | (refine c_drw (by decide +kernel) ?_; intro K hK) | refine c_cond ?_ | show endW _ _ _ _ _ | (refine Nz.h ?_ ?_ <;> intro _) | fail) <;> try simp (disch := first | exact dz | fail) only [go_sem, i_0, i_1, i_2, i_3, i_4, i_5, i_6, i_7, i_8, n_0, n_1, n_2, n_3, n_4, n_5, reduceCtorEq, reduceIte, e0]))
  refine callM_of (tNew 4096 i h0 hi) ?_
  rintro v h1 ⟨(⟨_, _, rfl, ta⟩ | ⟨hc, _⟩), k1⟩
  · have z1 := ta.ps
    refine vI ?_; repeat' (first
      | with_reducible first | refine Nx.h ?_ | (refine hK _ _ ?_; clear hK K)
      | ((with_reducible refine q_eo ?_ ?_); exact rfl)
      | ((with_reducible first | refine vO ?_ | (refine Ny.h ?_; intro K hK) | (refine c_drw (by decide +kernel) ?_; intro K hK) | refine c_cond ?_ | show endW _ _ _ _ _ | (refine Nz.h ?_ ?_ <;> intro _) | fail) <;> try simp (disch := first | exact dz | fail) only [go_sem, i_0, i_1, i_2, i_3, i_4, i_5, i_6, i_7, i_8, n_0, n_1, n_2, n_3, n_4, n_5, reduceCtorEq, reduceIte, e0]))
    refine hKK _ _ ⟨h1.size, h0.size, rfl, k1.1, Nat.le_refl _, by simp, by simp; omega, ⟨by rw [AH.get_push, if_pos rfl]; rfl, ⟨_, ta.frame (by rw [AH.get_push, if_neg (by omega)]) (by rw [AH.get_push, if_neg (by omega)]) (by simp)⟩, by simp, by omega, by omega⟩, k1.push (by omega) _⟩
  · omega
def dLimS (s : Rd) (m : Int) : Rd := if m < 0 ∨ m > 65536 then s else { s with lim := m, owed := s.owed || decide (s.max > m) }
set_option maxHeartbeats 4000000 in
theorem dblock (d p i ib : Nat) (b : AV) (bs : List UInt8) (most : Int) (s : Rd) (h0 : AH) (dc : Dc h0 d p i s) (hl : s.l.length ≤ 500000) (hb : bs.length ≤ 100000) (hm : 0 ≤ most) (sb : ∀ h, But3 d p i h0 h → Sl E8 h ib b bs) :
    callW Try.prog Try.T 29 [.ptr (some (d, 0)), b, .int .i64 most] h0 fun v h' => ((dBlk most (rd0 s bs)).1 = 0 ∧ (∃ o' j' i', v = .tuple [o', .bool (dBlk most (rd0 s bs)).2.over, .int .i64 0] ∧ Ow EF h' j' o' (dBlk most (rd0 s bs)).2.out ∧ h0.size ≤ j' ∧ ¬ j' = i' ∧ Dc h' d p i' (dBlk most (rd0 s bs)).2 ∧ (i' = i ∨ h0.size ≤ i')) ∨ ¬ (dBlk most (rd0 s bs)).1 = 0 ∧ v = .tuple [.slice none 0 0 0 true, .bool false, .int .i64 (dBlk most (rd0 s bs)).1] ∧ ∃ x y z, h'.get d = some (.cells [x, y, z, .bool true])) ∧ But3 d p i h0 h' := by
  refine callW_hide fun KK hKK => ?_
  have gd := dc.g
  have ds := dc.ds
  obtain ⟨a, ta⟩ := dc.t
  have ps := ta.ps
  have is := ta.is
  clear ta
  have s0 := sb h0 (But3.refl _ _ _ _)
  refine callW_in (n := 44) (rs := [.tmp 6, .tmp 7, .tmp 8]) (m := 44) Try.func29 rfl rfl rfl rfl fun tr ht => ?_; have e0 := ht 0 _ rfl; have e1 := ht 1 _ rfl; have e2 := ht 2 _ rfl; clear ht
  repeat' (first
      | with_reducible first | refine Nx.h ?_ | (refine hK _ _ ?_; clear hK K)
      | ((with_reducible refine q_eo ?_ ?_); exact rfl)
      | ((with_reducible first | (refine Ny.h ?_; intro K hK) | (refine c_drw (by decide +kernel) ?_; intro K hK) | refine c_cond ?_ | show endW _ _ _ _ _ | (refine Nz.h ?_ ?_ <;> intro _) | fail) <;> try simp (disch := first | exact dz | fail) only [go_sem, i_0, i_1, i_2, i_3, i_4, i_5, i_6, i_7, i_8, n_0, n_1, n_2, n_3, n_4, n_5, reduceCtorEq, reduceIte, e0, e1, e2, gd]))
  have bp : ∀ c, But3 d p i h0 (h0.push c) := fun c => ⟨by simp, fun x hx _ _ _ => by rw [AH.get_push, if_neg (by omega)]⟩
  have dcp : ∀ c, Dc (h0.push c) d p i s := fun c => dc.frame (fun b hb _ => by rw [AH.get_push, if_neg (by omega)]) (by simp)
  have lp : Lp (h0.push (.cells [.ptr (some (d, 0)), b, .int .i64 0, .bool false, .int .i64 most, .int .i64 0, .slice none 0 0 0 true, .bool false])) h0 h0.size ib d p i most (rd0 s bs) b (.slice none 0 0 0 true) i (h0.size + 1) :=
    ⟨by rw [AH.get_push, if_pos rfl]; rfl, .nil0 _ _, by omega, by omega, by omega, ⟨(dcp _).g, (dcp _).t, (dcp _).ds, dc.dp, dc.di⟩, .inl rfl, by omega, bp _, sb, ⟨by show (0:Int) ≤ 0; omega, by show (0:Int) ≤ 2; omega⟩, hb, by show s.l.length + bs.length ≤ _; omega, by show 0 + bs.length ≤ _; omega, by simp⟩
  refine callM_of (ublock h0.size ib d p i b _ i (h0.size + 1) most (rd0 s bs) _ h0 lp (Nat.le_refl _) ds ps) ?_
  generalize dBlk most (rd0 s bs) = R at *
  obtain ⟨e, sR⟩ := R
  rintro v h1 ⟨rfl, bt, ⟨x, o, gd1⟩, rs1, hlp⟩
  have z1 := bt.1
  simp only at hKK hlp ⊢
  by_cases he : e = 0
  · subst he
    obtain ⟨b', o', i', j', lp⟩ := hlp rfl
    have g1 := lp.g
    refine vI ?_; repeat' (first
      | with_reducible first | refine Nx.h ?_ | (refine hK _ _ ?_; clear hK K)
      | ((with_reducible refine q_eo ?_ ?_); exact rfl)
      | ((with_reducible first | refine vO ?_ | (refine Ny.h ?_; intro K hK) | (refine c_drw (by decide +kernel) ?_; intro K hK) | refine c_cond ?_ | show endW _ _ _ _ _ | (refine Nz.h ?_ ?_ <;> intro _) | fail) <;> try simp (disch := first | exact dz | fail) only [go_sem, i_0, i_1, i_2, i_3, i_4, i_5, i_6, i_7, i_8, n_0, n_1, n_2, n_3, n_4, n_5, reduceCtorEq, reduceIte, e0, e1, e2, g1]))
    exact hKK _ _ ⟨.inl ⟨rfl, o', j', i', rfl, lp.o, lp.j1, lp.j3, lp.dc, lp.i1⟩, bt⟩
  · refine vI ?_; repeat' (first
      | with_reducible first | refine Nx.h ?_ | (refine hK _ _ ?_; clear hK K)
      | ((with_reducible refine q_eo ?_ ?_); exact rfl)
      | ((with_reducible first | refine vO ?_ | (refine Ny.h ?_; intro K hK) | (refine c_drw (by decide +kernel) ?_; intro K hK) | refine c_cond ?_ | show endW _ _ _ _ _ | (refine Nz.h ?_ ?_ <;> intro _) | fail) <;> try simp (disch := first | exact dz | fail) only [go_sem, i_0, i_1, i_2, i_3, i_4, i_5, i_6, i_7, i_8, n_0, n_1, n_2, n_3, n_4, n_5, reduceCtorEq, reduceIte, e0, e1, e2, gd1]))
    refine hKK _ _ ⟨.inr ⟨he, rfl, _, _, _, by rw [AH.get_set, if_pos rfl]⟩, ⟨by simpa using z1, fun x hx q1 q2 q3 => by rw [AH.get_set, if_neg q1]; exact bt.2 x hx q1 q2 q3⟩⟩
end Go.Proofs.Ytmpeofjfagdgkaa
