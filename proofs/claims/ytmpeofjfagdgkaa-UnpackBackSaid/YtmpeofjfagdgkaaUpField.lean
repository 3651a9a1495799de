/- unpack: entry, known, named, update, of the code. -/
import Derived.Test.YtmpeofjfagdgkaaUpRead
set_option linter.unusedSimpArgs false
set_option linter.unusedVariables false
namespace Go.Proofs.Ytmpeofjfagdgkaa
open Go.Abs
open Int renaming reduceEq → i_0, reduceLE → i_1, reduceLT → i_2, reduceNe → i_3, reduceNeg → i_4, reduceAdd → i_5, reduceSub → i_6, reduceMul → i_7, reduceToNat → i_8
open Nat renaming reduceLT → n_0, reduceLeDiff → n_1, reduceEqDiff → n_2, reduceAdd → n_3, reduceSub → n_4, reduceMul → n_5
set_option maxRecDepth 100000
/-- The decoder of a block that is being read. -/
structure Dc (h : AH) (d p i : Nat) (s : Rd) : Prop where
  g : h.get d = some (.cells [.ptr (some (p, 0)), .int .i64 s.lim, .bool s.owed, .bool false])
  t : ∃ a, Tb h p i s.l s.max a
  ds : d < h.size
  dp : ¬ d = p
  di : ¬ d = i
theorem Dc.frame {h h' : AH} {d p i : Nat} {s : Rd} (t : Dc h d p i s) (hf : ∀ b, b < h.size → (b = d ∨ b = p ∨ b = i) → h'.get b = h.get b) (hz : h.size ≤ h'.size) : Dc h' d p i s := by
  obtain ⟨g, ⟨a, t⟩, ds, dp, di⟩ := t
  exact ⟨(hf d ds (.inl rfl)).trans g, ⟨a, t.frame (hf p t.ps (.inr (.inl rfl))) (hf i t.is (.inr (.inr rfl))) hz⟩, by omega, dp, di⟩
theorem Dc.one {h h' : AH} {d p i r : Nat} {s : Rd} (t : Dc h d p i s) (hr : ¬ r = d ∧ ¬ r = p ∧ ¬ r = i) (o : One r h h') : Dc h' d p i s :=
  t.frame (fun b hb hor => o.2 b hb (by omega)) o.1
theorem One.push {r : Nat} {c : AO} {h0 h1 : AH} (o : One r (h0.push c) h1) (hr : r < h0.size) : One r h0 h1 ∧ h0.size < h1.size ∧ h1.get h0.size = some c := by
  have z := o.1
  rw [AH.size_push] at z
  refine ⟨⟨by omega, fun x hx hxr => ?_⟩, by omega, ?_⟩
  · rw [o.2 x (by rw [AH.size_push]; omega) hxr, AH.get_push, if_neg (by omega)]
  · rw [o.2 h0.size (by rw [AH.size_push]; omega) (by omega), AH.get_push, if_pos rfl]
theorem One.setN {r k : Nat} {c : AO} {h0 h1 : AH} (o : One r h0 h1) (hk : h0.size ≤ k) : One r h0 (h1.set k c) :=
  ⟨by rw [AH.size_set]; exact o.1, fun x hx hxr => by rw [AH.get_set, if_neg (by omega)]; exact o.2 x hx hxr⟩
theorem One.pushN {r : Nat} {c : AO} {h0 h1 : AH} (o : One r h0 h1) : One r h0 (h1.push c) :=
  ⟨by rw [AH.size_push]; have := o.1; omega, fun x hx hxr => by rw [AH.get_push, if_neg (by have := o.1; omega)]; exact o.2 x hx hxr⟩
theorem keeps_alloc {c : AO} {h0 h1 : AH} (k : Keeps (h0.push c).size (h0.push c) h1) : Keeps h0.size h0 h1 ∧ h0.size < h1.size ∧ h1.get h0.size = some c := by
  have z := k.1
  rw [AH.size_push] at z
  exact ⟨⟨by omega, fun x hx => by rw [k.2 x (by rw [AH.size_push]; omega), AH.get_push, if_neg (by omega)]⟩, by omega, by rw [k.2 h0.size (by rw [AH.size_push]; omega), AH.get_push, if_pos rfl]⟩
set_option maxHeartbeats 4000000 in
theorem uent (r d p i : Nat) (n : Int) (x1 x2 x3 x4 x5 x6 x7 : AV) (s : Rd) (h0 : AH) (g : h0.get r = some (.cells [.ptr (some (d, 0)), x1, x2, x3, x4, x5, x6, x7])) (hs : r < h0.size) (dc : Dc h0 d p i s) (hn : 0 ≤ n ∧ n ≤ 2147483647) (hl : s.l.length ≤ 1000000) :
    callW Try.prog Try.T 77 [.ptr (some (r, 0)), .int .i64 n] h0 fun v h' => v = .tuple [.agg (EF.f (dEnt n s.l).1), .int .i64 (dEnt n s.l).2] ∧ Keeps h0.size h0 h' := by
  refine callW_hide fun KK hKK => ?_
  obtain ⟨gd, ⟨a, ta⟩, ds, dp, di⟩ := dc
  unfold dEnt at hKK
  refine callW_in (n := 24) (rs := [.cell 4 45, .tmp 5]) (m := 24) Try.func77 rfl rfl rfl rfl fun tr ht => ?_; have e0 := ht 0 _ rfl; have e1 := ht 1 _ rfl; clear ht
  by_cases hc : n ≤ 61
  · rw [if_pos hc] at hKK
    repeat' (first
      | with_reducible first | refine Nx.h ?_ | (refine hK _ _ ?_; clear hK K)
      | ((with_reducible refine q_eo ?_ ?_); exact rfl)
      | ((with_reducible first | (refine Ny.h ?_; intro K hK) | (refine c_drw (by decide +kernel) ?_; intro K hK) | refine c_cond ?_ | show endW _ _ _ _ _ | (refine Nz.h ?_ ?_ <;> intro _) | fail) <;> try simp (disch := first | exact dz | fail) only [go_sem, i_0, i_1, i_2, i_3, i_4, i_5, i_6, i_7, i_8, n_0, n_1, n_2, n_3, n_4, n_5, reduceCtorEq, reduceIte, e0, e1]))
    refine callM_of (sstat n _ (by omega)) ?_
    rintro v h1 ⟨rfl, k1⟩
    obtain ⟨o1, z1, g1⟩ := keeps_alloc k1
    rcases hx : statG n with ⟨⟨y1, y2, y3⟩, e⟩
    rw [hx, EFf] at hKK
    refine vI ?_; repeat' (first
      | with_reducible first | refine Nx.h ?_ | (refine hK _ _ ?_; clear hK K)
      | ((with_reducible refine q_eo ?_ ?_); exact rfl)
      | ((with_reducible first | refine vO ?_ | (refine Ny.h ?_; intro K hK) | (refine c_drw (by decide +kernel) ?_; intro K hK) | refine c_cond ?_ | show endW _ _ _ _ _ | (refine Nz.h ?_ ?_ <;> intro _) | fail) <;> try simp (disch := first | exact dz | fail) only [go_sem, i_0, i_1, i_2, i_3, i_4, i_5, i_6, i_7, i_8, n_0, n_1, n_2, n_3, n_4, n_5, reduceCtorEq, reduceIte, e0, e1, EFf, g1]))
    exact hKK _ _ ⟨rfl, o1.set (Nat.le_refl _) _⟩
  · rw [if_neg hc] at hKK
    repeat' (first
      | with_reducible first | refine Nx.h ?_ | (refine hK _ _ ?_; clear hK K)
      | ((with_reducible refine q_eo ?_ ?_); exact rfl)
      | ((with_reducible first | (refine Ny.h ?_; intro K hK) | (refine c_drw (by decide +kernel) ?_; intro K hK) | refine c_cond ?_ | show endW _ _ _ _ _ | (refine Nz.h ?_ ?_ <;> intro _) | fail) <;> try simp (disch := first | exact dz | fail) only [go_sem, i_0, i_1, i_2, i_3, i_4, i_5, i_6, i_7, i_8, n_0, n_1, n_2, n_3, n_4, n_5, reduceCtorEq, reduceIte, e0, e1, g, gd]))
    refine callM_of (tGet p i s.l s.max (n - 61) a _ (ta.frame (by rw [AH.get_push, if_neg (by have := ta.ps; omega)]) (by rw [AH.get_push, if_neg (by have := ta.is; omega)]) (by simp)) hl) ?_
    rintro v h1 ⟨rfl, k1⟩
    obtain ⟨o1, z1, g1⟩ := keeps_alloc k1
    rcases hx : getF (n - 61) s.l with ⟨⟨y1, y2, y3⟩, e⟩
    rw [hx, EFf] at hKK
    refine vI ?_; repeat' (first
      | with_reducible first | refine Nx.h ?_ | (refine hK _ _ ?_; clear hK K)
      | ((with_reducible refine q_eo ?_ ?_); exact rfl)
      | ((with_reducible first | refine vO ?_ | (refine Ny.h ?_; intro K hK) | (refine c_drw (by decide +kernel) ?_; intro K hK) | refine c_cond ?_ | show endW _ _ _ _ _ | (refine Nz.h ?_ ?_ <;> intro _) | fail) <;> try simp (disch := first | exact dz | fail) only [go_sem, i_0, i_1, i_2, i_3, i_4, i_5, i_6, i_7, i_8, n_0, n_1, n_2, n_3, n_4, n_5, reduceCtorEq, reduceIte, e0, e1, EFf, g1]))
    exact hKK _ _ ⟨rfl, o1.set (Nat.le_refl _) _⟩
set_option maxHeartbeats 8000000 in
theorem uknown (r ib d p i : Nat) (b x2 x3 x4 x5 x6 x7 : AV) (s : Rd) (Fr : AH → Prop) (h0 : AH) (g : h0.get r = some (.cells [.ptr (some (d, 0)), b, x2, x3, x4, x5, x6, x7])) (hs : r < h0.size) (dc : Dc h0 d p i s) (hr : ¬ r = d ∧ ¬ r = p ∧ ¬ r = i) (sb : ∀ h, Fr h → Sl E8 h ib b s.b) (hF : ∀ h, One r h0 h → Fr h) (hb : s.b.length ≤ 100000) (hl : s.l.length ≤ 1000000) :
    callW Try.prog Try.T 67 [.ptr (some (r, 0))] h0 fun v h' => v = .tuple [.agg (EF.f (dKnown s).2.1), .int .i64 (dKnown s).1] ∧ (∃ b', h'.get r = some (.cells [.ptr (some (d, 0)), b', x2, x3, x4, x5, x6, x7]) ∧ ((dKnown s).1 = 0 → ∀ h, Fr h → Sl E8 h ib b' (dKnown s).2.2)) ∧ One r h0 h' := by
  refine callW_hide fun KK hKK => ?_
  unfold dKnown fd0 at hKK
  have hn := dNum_len 7 s.b
  have cN := fun h => unum r ib 7 b (.ptr (some (d, 0))) x2 x3 x4 x5 x6 x7 s.b Fr h
  refine callW_in (n := 31) (rs := [.cell 2 45, .tmp 3]) (m := 31) Try.func67 rfl rfl rfl rfl fun tr ht => ?_; have e0 := ht 0 _ rfl; clear ht
  repeat' (first
      | with_reducible first | refine Nx.h ?_ | (refine hK _ _ ?_; clear hK K)
      | ((with_reducible refine q_eo ?_ ?_); exact rfl)
      | ((with_reducible first | (refine Ny.h ?_; intro K hK) | (refine c_drw (by decide +kernel) ?_; intro K hK) | refine c_cond ?_ | show endW _ _ _ _ _ | (refine Nz.h ?_ ?_ <;> intro _) | fail) <;> try simp (disch := first | exact dz | fail) only [go_sem, i_0, i_1, i_2, i_3, i_4, i_5, i_6, i_7, i_8, n_0, n_1, n_2, n_3, n_4, n_5, reduceCtorEq, reduceIte, e0]))
  refine callM_of (cN _ (by rw [AH.get_push, if_neg (by omega)]; exact g) (by simp; omega) sb (hF _ (One.refl _ _).pushN) hb) ?_
  clear cN
  generalize dNum 7 s.b = q at *
  obtain ⟨e, n, rest⟩ := q
  simp only at hKK hn ⊢
  obtain ⟨n0, n1, n2, n3, n4⟩ := hn
  rintro v h1 ⟨rfl, ⟨b', g1, sb1⟩, o1⟩
  obtain ⟨o1, z1, ga⟩ := o1.push hs
  have dc1 := dc.one hr o1
  have gd := dc1.g
  by_cases he : e = 0
  · rw [if_neg (by omega)] at hKK
    subst he
    cases ho : s.owed with
    | true =>
      rw [if_pos ho] at hKK
      rw [ho] at gd
      refine vI ?_; repeat' (first
      | with_reducible first | refine Nx.h ?_ | (refine hK _ _ ?_; clear hK K)
      | ((with_reducible refine q_eo ?_ ?_); exact rfl)
      | ((with_reducible first | refine vO ?_ | (refine Ny.h ?_; intro K hK) | (refine c_drw (by decide +kernel) ?_; intro K hK) | refine c_cond ?_ | show endW _ _ _ _ _ | (refine Nz.h ?_ ?_ <;> intro _) | fail) <;> try simp (disch := first | exact dz | fail) only [go_sem, i_0, i_1, i_2, i_3, i_4, i_5, i_6, i_7, i_8, n_0, n_1, n_2, n_3, n_4, n_5, reduceCtorEq, reduceIte, e0, g1, gd, ga, EFf]))
      refine hKK _ _ ⟨rfl, ⟨_, by rw [AH.get_set, if_neg (by omega)]; exact g1, fun h => by simp at h⟩, o1.setN (Nat.le_refl _)⟩
    | false =>
      rw [if_neg (by rw [ho]; decide)] at hKK
      rw [ho] at gd
      refine vI ?_; repeat' (first
      | with_reducible first | refine Nx.h ?_ | (refine hK _ _ ?_; clear hK K)
      | ((with_reducible refine q_eo ?_ ?_); exact rfl)
      | ((with_reducible first | refine vO ?_ | (refine Ny.h ?_; intro K hK) | (refine c_drw (by decide +kernel) ?_; intro K hK) | refine c_cond ?_ | show endW _ _ _ _ _ | (refine Nz.h ?_ ?_ <;> intro _) | fail) <;> try simp (disch := first | exact dz | fail) only [go_sem, i_0, i_1, i_2, i_3, i_4, i_5, i_6, i_7, i_8, n_0, n_1, n_2, n_3, n_4, n_5, reduceCtorEq, reduceIte, e0, g1, gd]))
      refine callM_of (uent r d p i n b' x2 x3 x4 x5 x6 x7 s h1 g1 (by omega) dc1 ⟨n0, n1⟩ hl) ?_
      rintro v h2 ⟨rfl, k2⟩
      rcases hx : dEnt n s.l with ⟨⟨y1, y2, y3⟩, e⟩
      rw [hx] at hKK
      simp only at hKK
      rw [EFf] at hKK
      have ga2 := (k2.2 h0.size z1).trans ga
      have gr2 := (k2.2 r (by omega)).trans g1
      refine vI ?_; repeat' (first
      | with_reducible first | refine Nx.h ?_ | (refine hK _ _ ?_; clear hK K)
      | ((with_reducible refine q_eo ?_ ?_); exact rfl)
      | ((with_reducible first | refine vO ?_ | (refine Ny.h ?_; intro K hK) | (refine c_drw (by decide +kernel) ?_; intro K hK) | refine c_cond ?_ | show endW _ _ _ _ _ | (refine Nz.h ?_ ?_ <;> intro _) | fail) <;> try simp (disch := first | exact dz | fail) only [go_sem, i_0, i_1, i_2, i_3, i_4, i_5, i_6, i_7, i_8, n_0, n_1, n_2, n_3, n_4, n_5, reduceCtorEq, reduceIte, e0, EFf, ga2]))
      exact hKK _ _ ⟨rfl, ⟨_, by rw [AH.get_set, if_neg (by omega)]; exact gr2, fun _ => sb1⟩, (o1.trans (One.of k2)).setN (Nat.le_refl _)⟩
  · rw [if_pos he] at hKK
    refine vI ?_; repeat' (first
      | with_reducible first | refine Nx.h ?_ | (refine hK _ _ ?_; clear hK K)
      | ((with_reducible refine q_eo ?_ ?_); exact rfl)
      | ((with_reducible first | refine vO ?_ | (refine Ny.h ?_; intro K hK) | (refine c_drw (by decide +kernel) ?_; intro K hK) | refine c_cond ?_ | show endW _ _ _ _ _ | (refine Nz.h ?_ ?_ <;> intro _) | fail) <;> try simp (disch := first | exact dz | fail) only [go_sem, i_0, i_1, i_2, i_3, i_4, i_5, i_6, i_7, i_8, n_0, n_1, n_2, n_3, n_4, n_5, reduceCtorEq, reduceIte, e0, g1, gd, ga, EFf]))
    refine hKK _ _ ⟨rfl, ⟨_, by rw [AH.get_set, if_neg (by omega)]; exact g1, fun h => absurd h he⟩, o1.setN (Nat.le_refl _)⟩
set_option maxHeartbeats 8000000 in
theorem uupdate (r ib d p i : Nat) (b x4 x5 x6 x7 : AV) (s : Rd) (Fr : AH → Prop) (h0 : AH) (g : h0.get r = some (.cells [.ptr (some (d, 0)), b, .int .i64 s.u, .bool s.fl, x4, x5, x6, x7])) (hs : r < h0.size) (dc : Dc h0 d p i s) (hr : ¬ r = d ∧ ¬ r = p ∧ ¬ r = i) (sb : ∀ h, Fr h → Sl E8 h ib b s.b) (hF : ∀ h, One r h0 h → Fr h) (hb : s.b.length ≤ 100000) (hl : s.l.length ≤ 1000000) (hu : 0 ≤ s.u ∧ s.u ≤ 2) :
    callW Try.prog Try.T 69 [.ptr (some (r, 0))] h0 fun v h' => v = .int .i64 (dUpd s).1 ∧ (∃ b' u', h'.get r = some (.cells [.ptr (some (d, 0)), b', u', .bool s.fl, x4, x5, x6, x7]) ∧ (∃ o', h'.get d = some (.cells [.ptr (some (p, 0)), .int .i64 s.lim, .bool o', .bool false])) ∧ ((dUpd s).1 = 0 → u' = .int .i64 (dUpd s).2.u ∧ Dc h' d p i (dUpd s).2 ∧ ∀ h, Fr h → Sl E8 h ib b' (dUpd s).2.b)) ∧ h0.size ≤ h'.size ∧ ∀ x, x < h0.size → ¬ x = r → ¬ x = d → ¬ x = p → ¬ x = i → h'.get x = h0.get x := by
  refine callW_hide fun KK hKK => ?_
  unfold dUpd at hKK
  have hn := dNum_len 5 s.b
  have cN := fun h => unum r ib 5 b (.ptr (some (d, 0))) (.int .i64 s.u) (.bool s.fl) x4 x5 x6 x7 s.b Fr h
  refine callW_in (n := 57) (rs := [.tmp 2]) (m := 57) Try.func69 rfl rfl rfl rfl fun tr ht => ?_; have e0 := ht 0 _ rfl; clear ht
  repeat' (first
      | with_reducible first | refine Nx.h ?_ | (refine hK _ _ ?_; clear hK K)
      | ((with_reducible refine q_eo ?_ ?_); exact rfl)
      | ((with_reducible first | (refine Ny.h ?_; intro K hK) | (refine c_drw (by decide +kernel) ?_; intro K hK) | refine c_cond ?_ | show endW _ _ _ _ _ | (refine Nz.h ?_ ?_ <;> intro _) | fail) <;> try simp (disch := first | exact dz | fail) only [go_sem, i_0, i_1, i_2, i_3, i_4, i_5, i_6, i_7, i_8, n_0, n_1, n_2, n_3, n_4, n_5, reduceCtorEq, reduceIte, e0]))
  refine callM_of (cN _ g hs sb (hF _ (One.refl _ _)) hb) ?_
  clear cN
  generalize dNum 5 s.b = q at *
  obtain ⟨e, n, rest⟩ := q
  simp only at hKK hn ⊢
  obtain ⟨n0, n1, n2, n3, n4⟩ := hn
  rintro v h1 ⟨rfl, ⟨b', g1, sb1⟩, o1⟩
  have dc1 := dc.one hr o1
  have gd := dc1.g
  have z1 := o1.1
  have hds := dc.ds
  have same : ∀ h2 : AH, h1.size ≤ h2.size → (∀ x, x < h1.size → ¬ x = r → ¬ x = d → ¬ x = p → ¬ x = i → h2.get x = h1.get x) → h0.size ≤ h2.size ∧ ∀ x, x < h0.size → ¬ x = r → ¬ x = d → ¬ x = p → ¬ x = i → h2.get x = h0.get x := fun h2 hz hf =>
    ⟨by omega, fun x hx a1 a2 a3 a4 => (hf x (by omega) a1 a2 a3 a4).trans (o1.2 x hx a1)⟩
  have hset : ∀ c x, ¬ x = r → (h1.set r c).get x = h1.get x := fun c x hx => by rw [AH.get_set, if_neg hx]
  by_cases he : e = 0
  · rw [if_neg (by omega)] at hKK
    subst he
    by_cases hc : s.fl = true ∨ s.u + 1 > 2 ∨ n > s.lim
    · rw [if_pos hc] at hKK
      have fin : ∀ c : List AV, c = [.ptr (some (d, 0)), b', .int .i64 (s.u + 1), .bool s.fl, x4, x5, x6, x7] → KK (.int .i64 7) (h1.set r (.cells c)) := fun c hc => by
        subst hc
        exact hKK _ _ ⟨rfl, ⟨b', _, by rw [AH.get_set, if_pos rfl], ⟨_, (hset _ _ (fun h => hr.1 h.symm)).trans gd⟩, fun h => by simp at h⟩, same _ (by simp) (fun x _ a1 _ _ _ => hset _ _ a1)⟩
      by_cases c1 : s.fl = true
      · rw [c1] at g1 fin
        refine vI ?_; repeat' (first
      | with_reducible first | refine Nx.h ?_ | (refine hK _ _ ?_; clear hK K)
      | ((with_reducible refine q_eo ?_ ?_); exact rfl)
      | ((with_reducible first | refine vO ?_ | (refine Ny.h ?_; intro K hK) | (refine c_drw (by decide +kernel) ?_; intro K hK) | refine c_cond ?_ | show endW _ _ _ _ _ | (refine Nz.h ?_ ?_ <;> intro _) | fail) <;> try simp (disch := first | exact dz | fail) only [go_sem, i_0, i_1, i_2, i_3, i_4, i_5, i_6, i_7, i_8, n_0, n_1, n_2, n_3, n_4, n_5, reduceCtorEq, reduceIte, e0, g1, gd]))
        exact fin _ rfl
      · have c1' : s.fl = false := by cases h : s.fl <;> simp_all
        rw [c1'] at g1 fin
        by_cases c2 : s.u + 1 > 2
        · refine vI ?_; repeat' (first
      | with_reducible first | refine Nx.h ?_ | (refine hK _ _ ?_; clear hK K)
      | ((with_reducible refine q_eo ?_ ?_); exact rfl)
      | ((with_reducible first | refine vO ?_ | (refine Ny.h ?_; intro K hK) | (refine c_drw (by decide +kernel) ?_; intro K hK) | refine c_cond ?_ | show endW _ _ _ _ _ | (refine Nz.h ?_ ?_ <;> intro _) | fail) <;> try simp (disch := first | exact dz | fail) only [go_sem, i_0, i_1, i_2, i_3, i_4, i_5, i_6, i_7, i_8, n_0, n_1, n_2, n_3, n_4, n_5, reduceCtorEq, reduceIte, e0, g1, gd]))
          exact fin _ rfl
        · have c3 : n > s.lim := by rcases hc with h | h | h; exact absurd h c1; omega; exact h
          refine vI ?_; repeat' (first
      | with_reducible first | refine Nx.h ?_ | (refine hK _ _ ?_; clear hK K)
      | ((with_reducible refine q_eo ?_ ?_); exact rfl)
      | ((with_reducible first | refine vO ?_ | (refine Ny.h ?_; intro K hK) | (refine c_drw (by decide +kernel) ?_; intro K hK) | refine c_cond ?_ | show endW _ _ _ _ _ | (refine Nz.h ?_ ?_ <;> intro _) | fail) <;> try simp (disch := first | exact dz | fail) only [go_sem, i_0, i_1, i_2, i_3, i_4, i_5, i_6, i_7, i_8, n_0, n_1, n_2, n_3, n_4, n_5, reduceCtorEq, reduceIte, e0, g1, gd]))
          exact fin _ rfl
    · rw [if_neg hc] at hKK
      obtain ⟨a, ta⟩ := dc1.t
      have c1' : s.fl = false := by cases h : s.fl <;> simp_all
      have c2 : ¬ s.u + 1 > 2 := fun h => hc (.inr (.inl h))
      have c3 : ¬ n > s.lim := fun h => hc (.inr (.inr h))
      have tps := ta.ps
      have tis := ta.is
      obtain ⟨r1, r2, r3⟩ := hr
      have dp := dc.dp
      have di := dc.di
      rw [c1'] at g1
      refine vI ?_; repeat' (first
      | with_reducible first | refine Nx.h ?_ | (refine hK _ _ ?_; clear hK K)
      | ((with_reducible refine q_eo ?_ ?_); exact rfl)
      | ((with_reducible first | refine vO ?_ | (refine Ny.h ?_; intro K hK) | (refine c_drw (by decide +kernel) ?_; intro K hK) | refine c_cond ?_ | show endW _ _ _ _ _ | (refine Nz.h ?_ ?_ <;> intro _) | fail) <;> try simp (disch := first | exact dz | fail) only [go_sem, i_0, i_1, i_2, i_3, i_4, i_5, i_6, i_7, i_8, n_0, n_1, n_2, n_3, n_4, n_5, reduceCtorEq, reduceIte, e0, g1, gd]))
      refine cM_hide fun h2 hh2 => ?_
      have z2 : h2.size = h1.size := by rw [hh2]; simp
      have gr2 : h2.get r = some (.cells [.ptr (some (d, 0)), b', .int .i64 (s.u + 1), .bool false, x4, x5, x6, x7]) := by rw [hh2, AH.get_set, if_neg (by omega), AH.get_set, if_pos rfl]
      have gd2 : h2.get d = some (.cells [.ptr (some (p, 0)), .int .i64 s.lim, .bool false, .bool false]) := by rw [hh2, AH.get_set, if_pos rfl]
      have f2 : ∀ x, ¬ x = r → ¬ x = d → h2.get x = h1.get x := fun x hx hy => by rw [hh2, AH.get_set, if_neg hy, AH.get_set, if_neg hx]
      clear hh2
      refine callM_of (tResize p i s.l s.max n a h2 (ta.frame (f2 p (by omega) (by omega)) (f2 i (by omega) (by omega)) (by omega)) hl) ?_
      rintro v h3 ⟨rfl, b3, a3, t3⟩
      have z3 := b3.1
      have gr3 := (b3.2 r (by omega) r2 r3).trans gr2
      have gd3 := (b3.2 d (by omega) dp di).trans gd2
      refine vI ?_; repeat' (first
      | with_reducible first | refine Nx.h ?_ | (refine hK _ _ ?_; clear hK K)
      | ((with_reducible refine q_eo ?_ ?_); exact rfl)
      | ((with_reducible first | refine vO ?_ | (refine Ny.h ?_; intro K hK) | (refine c_drw (by decide +kernel) ?_; intro K hK) | refine c_cond ?_ | show endW _ _ _ _ _ | (refine Nz.h ?_ ?_ <;> intro _) | fail) <;> try simp (disch := first | exact dz | fail) only [go_sem, i_0, i_1, i_2, i_3, i_4, i_5, i_6, i_7, i_8, n_0, n_1, n_2, n_3, n_4, n_5, reduceCtorEq, reduceIte, e0]))
      rw [c1'] at hKK
      refine hKK _ _ ⟨rfl, ⟨b', _, gr3, ⟨_, gd3⟩, fun _ => ⟨rfl, ⟨gd3, ⟨_, t3⟩, by omega, dp, di⟩, sb1⟩⟩, same _ (by omega) fun x hx a1 a2 a3 a4 => (b3.2 x (by omega) a3 a4).trans (f2 x a1 a2)⟩
  · rw [if_pos he] at hKK
    refine vI ?_; repeat' (first
      | with_reducible first | refine Nx.h ?_ | (refine hK _ _ ?_; clear hK K)
      | ((with_reducible refine q_eo ?_ ?_); exact rfl)
      | ((with_reducible first | refine vO ?_ | (refine Ny.h ?_; intro K hK) | (refine c_drw (by decide +kernel) ?_; intro K hK) | refine c_cond ?_ | show endW _ _ _ _ _ | (refine Nz.h ?_ ?_ <;> intro _) | fail) <;> try simp (disch := first | exact dz | fail) only [go_sem, i_0, i_1, i_2, i_3, i_4, i_5, i_6, i_7, i_8, n_0, n_1, n_2, n_3, n_4, n_5, reduceCtorEq, reduceIte, e0, g1]))
    refine hKK _ _ ⟨rfl, ⟨b', _, g1, ⟨_, gd⟩, fun h => absurd h he⟩, same _ (Nat.le_refl _) fun _ _ _ _ _ _ => rfl⟩
end Go.Proofs.Ytmpeofjfagdgkaa
