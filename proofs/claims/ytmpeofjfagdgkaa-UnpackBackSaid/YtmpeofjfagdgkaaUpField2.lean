/- unpack: named, tell, of the code. -/
import Derived.Test.YtmpeofjfagdgkaaUpField
set_option linter.unusedSimpArgs false
set_option linter.unusedVariables false
namespace Go.Proofs.Ytmpeofjfagdgkaa
open Go.Abs
open Int renaming reduceEq → i_0, reduceLE → i_1, reduceLT → i_2, reduceNe → i_3, reduceNeg → i_4, reduceAdd → i_5, reduceSub → i_6, reduceMul → i_7, reduceToNat → i_8
open Nat renaming reduceLT → n_0, reduceLeDiff → n_1, reduceEqDiff → n_2, reduceAdd → n_3, reduceSub → n_4, reduceMul → n_5
set_option maxRecDepth 100000
set_option maxHeartbeats 8000000 in
theorem utell (r jo : Nat) (x0 x1 x2 x3 o : AV) (most : Int) (s : Rd) (f : Fd) (h0 : AH) (g : h0.get r = some (.cells [x0, x1, x2, x3, .int .i64 most, .int .i64 s.size, o, .bool s.over])) (hs : r < h0.size) (oo : Ow EF h0 jo o s.out) (hj : ¬ jo = r) (hl : s.out.length ≤ 1000000) :
    callW Try.prog Try.T 70 [.ptr (some (r, 0)), .agg (EF.f f)] h0 fun v h' => ∃ o' j', h'.get r = some (.cells [x0, x1, x2, x3, .int .i64 most, .int .i64 (dTell most s f).size, o', .bool (dTell most s f).over]) ∧ Ow EF h' j' o' (dTell most s f).out ∧ ¬ j' = r ∧ (j' = jo ∨ h0.size ≤ j') ∧ h0.size ≤ h'.size ∧ ∀ x, x < h0.size → ¬ x = r → ¬ x = jo → h'.get x = h0.get x := by
  refine callW_hide fun KK hKK => ?_
  obtain ⟨y1, y2, y3⟩ := f
  unfold dTell at hKK
  simp only at hKK
  have hWW : IntKind.i64.wrap (s.size + W (szs [(y1, y2, y3)])) = W (s.size + W (szs [(y1, y2, y3)])) := rfl
  generalize hn : W (s.size + W (szs [(y1, y2, y3)])) = n at *
  rw [EFf]
  refine callW_in (n := 47) (rs := []) (m := 47) Try.func70 rfl rfl rfl rfl fun tr ht => ?_; have e0 := ht 0 _ rfl; have e1 := ht 1 _ rfl; clear ht
  have qb := fun h : AH => bsR_agg (T := Try.T) (h := h) (t := 28) (e := 45) (n := 3) (cs := [.str y1, .str y2, .bool y3]) rfl rfl rfl rfl (by omega) rfl rfl
  repeat' (first
      | with_reducible first | refine Nx.h ?_ | (refine hK _ _ ?_; clear hK K)
      | ((with_reducible refine q_eo ?_ ?_); exact rfl)
      | ((with_reducible first | (refine Ny.h ?_; intro K hK) | (refine c_drw (by decide +kernel) ?_; intro K hK) | refine c_cond ?_ | show endW _ _ _ _ _ | (refine Nz.h ?_ ?_ <;> intro _) | fail) <;> try simp (disch := first | exact dz | fail) only [go_sem, i_0, i_1, i_2, i_3, i_4, i_5, i_6, i_7, i_8, n_0, n_1, n_2, n_3, n_4, n_5, reduceCtorEq, reduceIte, e0, e1, g, qb]))
  refine c_looseW [(3, 6), (3, 7)] (by decide +kernel) ?_; repeat' (first
      | with_reducible first | refine Nx.h ?_ | (refine hK _ _ ?_; clear hK K)
      | ((with_reducible refine q_eo ?_ ?_); exact rfl)
      | ((with_reducible first | (refine Ny.h ?_; intro K hK) | (refine c_drw (by decide +kernel) ?_; intro K hK) | refine c_cond ?_ | show endW _ _ _ _ _ | (refine Nz.h ?_ ?_ <;> intro _) | fail) <;> try simp (disch := first | exact dz | fail) only [go_sem, i_0, i_1, i_2, i_3, i_4, i_5, i_6, i_7, i_8, n_0, n_1, n_2, n_3, n_4, n_5, reduceCtorEq, reduceIte, e0, e1, g, qb])
      | with_reducible refine obl_and (by simp (disch := first | exact dz | fail) only [go_sem, i_0, i_1, i_2, i_3, i_4, i_5, i_6, i_7, i_8, n_0, n_1, n_2, n_3, n_4, n_5, reduceCtorEq, reduceIte, e0, e1, g, qb]) ?_)
  refine cM_hide fun hb hhb => ?_
  have zb : hb.size = h0.size + 2 := by rw [hhb]; simp
  have fb : ∀ b, b < h0.size → hb.get b = h0.get b := by
    intro b hb'; rw [hhb]; simp (disch := first | exact dz | fail) only [go_sem, i_0, i_1, i_2, i_3, i_4, i_5, i_6, i_7, i_8, n_0, n_1, n_2, n_3, n_4, n_5, reduceCtorEq, reduceIte]
  have gF : hb.get h0.size = some (.cells [.str y1, .str y2, .bool y3]) := by rw [hhb]; simp (disch := first | exact dz | fail) only [go_sem, i_0, i_1, i_2, i_3, i_4, i_5, i_6, i_7, i_8, n_0, n_1, n_2, n_3, n_4, n_5, reduceCtorEq, reduceIte]
  have gB : hb.get (h0.size + 1) = some (.cells (EF.f (y1, y2, y3))) := by rw [hhb]; simp (disch := first | exact dz | fail) only [go_sem, i_0, i_1, i_2, i_3, i_4, i_5, i_6, i_7, i_8, n_0, n_1, n_2, n_3, n_4, n_5, reduceCtorEq, reduceIte]; rfl
  have sB : Sl EF hb (h0.size + 1) (.slice (some (h0.size + 1, 0)) 1 1 3 true) [(y1, y2, y3)] := (Ow.full (E := EF) 1 true [(y1, y2, y3)] (by rw [gB]; rfl) (by omega) rfl).sl
  refine callM_of (fieldSize _ _ _ _ sB (by simp)) ?_
  rintro v h1 ⟨rfl, k1⟩
  have z1 := k1.1
  have g1 : h1.get r = some (.cells [x0, x1, x2, x3, .int .i64 most, .int .i64 s.size, o, .bool s.over]) := by rw [k1.2 r (by omega), fb r hs, g]
  have f1 : h1.get h0.size = some (.cells [.str y1, .str y2, .bool y3]) := by rw [k1.2 _ (by omega), gF]
  have keep1 : ∀ x, x < h0.size → h1.get x = h0.get x := fun x hx => (k1.2 x (by omega)).trans (fb x hx)
  have o1 : ∃ j, Ow EF h1 j o s.out ∧ ¬ j = r ∧ (j = jo ∨ h0.size ≤ j) := by
    by_cases hjs : jo < h0.size
    · exact ⟨jo, oo.frame (fun _ => keep1 jo hjs) (by omega), hj, .inl rfl⟩
    · exact ⟨h1.size, ow_re oo hjs _ _, by omega, .inr (by omega)⟩
  obtain ⟨j1, o1, hj1, hj1'⟩ := o1
  have main : ∀ c : Bool, (s.over || decide (n > most)) = c → ∀ h' o' j', h'.get r = some (.cells [x0, x1, x2, x3, .int .i64 most, .int .i64 n, o', .bool c]) → Ow EF h' j' o' (if c = true then s.out else s.out ++ [(y1, y2, y3)]) → ¬ j' = r → (j' = jo ∨ h0.size ≤ j') → h0.size ≤ h'.size → (∀ x, x < h0.size → ¬ x = r → ¬ x = jo → h'.get x = h0.get x) → KK (.tuple []) h' := fun c hc h' o' j' q1 q2 q3 q4 q5 q6 => by
    rw [hc] at hKK
    exact hKK _ _ ⟨o', j', q1, q2, q3, q4, q5, q6⟩
  cases hov : s.over with
  | true =>
    rw [hov] at g1 g
    have hm := main true (by rw [hov]; rfl)
    clear main
    refine vI ?_; repeat' (first
      | with_reducible first | refine Nx.h ?_ | (refine hK _ _ ?_; clear hK K)
      | ((with_reducible refine q_eo ?_ ?_); exact rfl)
      | ((with_reducible first | refine vO ?_ | (refine Ny.h ?_; intro K hK) | (refine c_drw (by decide +kernel) ?_; intro K hK) | refine c_cond ?_ | show endW _ _ _ _ _ | (refine Nz.h ?_ ?_ <;> intro _) | fail) <;> try simp (disch := first | exact dz | fail) only [go_sem, i_0, i_1, i_2, i_3, i_4, i_5, i_6, i_7, i_8, n_0, n_1, n_2, n_3, n_4, n_5, reduceCtorEq, reduceIte, e0, e1, g1, g, hWW])
      | with_reducible refine obl_and (by simp (disch := first | exact dz | fail) only [go_sem, i_0, i_1, i_2, i_3, i_4, i_5, i_6, i_7, i_8, n_0, n_1, n_2, n_3, n_4, n_5, reduceCtorEq, reduceIte, e0, e1, g1, g, hWW]) ?_)
    refine hm _ o j1 (by rw [AH.get_set, if_pos rfl]) (o1.frame (fun _ => by rw [AH.get_set, if_neg hj1, AH.get_set, if_neg hj1]) (by simp)) hj1 hj1' (by simp; omega) (fun x hx q1 q2 => by rw [AH.get_set, if_neg q1, AH.get_set, if_neg q1]; exact keep1 x hx)
  | false =>
    rw [hov] at g1 g
    by_cases hc : n > most
    · have hm := main true (by simp [hc])
      clear main
      refine vI ?_; repeat' (first
      | with_reducible first | refine Nx.h ?_ | (refine hK _ _ ?_; clear hK K)
      | ((with_reducible refine q_eo ?_ ?_); exact rfl)
      | ((with_reducible first | refine vO ?_ | (refine Ny.h ?_; intro K hK) | (refine c_drw (by decide +kernel) ?_; intro K hK) | refine c_cond ?_ | show endW _ _ _ _ _ | (refine Nz.h ?_ ?_ <;> intro _) | fail) <;> try simp (disch := first | exact dz | fail) only [go_sem, i_0, i_1, i_2, i_3, i_4, i_5, i_6, i_7, i_8, n_0, n_1, n_2, n_3, n_4, n_5, reduceCtorEq, reduceIte, e0, e1, g1, g, hWW])
      | with_reducible refine obl_and (by simp (disch := first | exact dz | fail) only [go_sem, i_0, i_1, i_2, i_3, i_4, i_5, i_6, i_7, i_8, n_0, n_1, n_2, n_3, n_4, n_5, reduceCtorEq, reduceIte, e0, e1, g1, g, hWW]) ?_)
      refine hm _ o j1 (by rw [AH.get_set, if_pos rfl]) (o1.frame (fun _ => by rw [AH.get_set, if_neg hj1, AH.get_set, if_neg hj1]) (by simp)) hj1 hj1' (by simp; omega) (fun x hx q1 q2 => by rw [AH.get_set, if_neg q1, AH.get_set, if_neg q1]; exact keep1 x hx)
    · have hm := main false (by simp [hov, hc])
      clear main
      refine vI ?_; repeat' (first
      | with_reducible first | refine Nx.h ?_ | (refine hK _ _ ?_; clear hK K)
      | ((with_reducible refine q_eo ?_ ?_); exact rfl)
      | ((with_reducible first | refine vO ?_ | (refine Ny.h ?_; intro K hK) | (refine c_drw (by decide +kernel) ?_; intro K hK) | refine c_cond ?_ | show endW _ _ _ _ _ | (refine Nz.h ?_ ?_ <;> intro _) | fail) <;> try simp (disch := first | exact dz | fail) only [go_sem, i_0, i_1, i_2, i_3, i_4, i_5, i_6, i_7, i_8, n_0, n_1, n_2, n_3, n_4, n_5, reduceCtorEq, reduceIte, e0, e1, g1, g, hWW])
      | with_reducible refine obl_and (by simp (disch := first | exact dz | fail) only [go_sem, i_0, i_1, i_2, i_3, i_4, i_5, i_6, i_7, i_8, n_0, n_1, n_2, n_3, n_4, n_5, reduceCtorEq, reduceIte, e0, e1, g1, g, hWW]) ?_)
      refine c_hide fun h2 hh2 => ?_
      have z2 : h2.size = h1.size := by rw [hh2]; simp
      have g2 : h2.get r = some (.cells [x0, x1, x2, x3, .int .i64 most, .int .i64 n, o, .bool false]) := by rw [hh2, AH.get_set, if_pos rfl]
      have f2 : ∀ x, ¬ x = r → h2.get x = h1.get x := fun x hx => by rw [hh2, AH.get_set, if_neg hx, AH.get_set, if_neg hx]
      have f2' : h2.get h0.size = some (.cells [.str y1, .str y2, .bool y3]) := (f2 _ (by omega)).trans f1
      have o2 : Ow EF h2 j1 o s.out := o1.frame (fun _ => f2 _ hj1) (by omega)
      clear hh2
      refine c_looseW [(4, 7)] (by decide +kernel) ?_; repeat' (first
      | with_reducible first | refine Nx.h ?_ | (refine hK _ _ ?_; clear hK K)
      | ((with_reducible refine q_eo ?_ ?_); exact rfl)
      | ((with_reducible first | (refine Ny.h ?_; intro K hK) | (refine c_drw (by decide +kernel) ?_; intro K hK) | refine c_cond ?_ | show endW _ _ _ _ _ | (refine Nz.h ?_ ?_ <;> intro _) | fail) <;> try simp (disch := first | exact dz | fail) only [go_sem, i_0, i_1, i_2, i_3, i_4, i_5, i_6, i_7, i_8, n_0, n_1, n_2, n_3, n_4, n_5, reduceCtorEq, reduceIte, e0, e1, g2, f2', qb])
      | with_reducible refine obl_and (by simp (disch := first | exact dz | fail) only [go_sem, i_0, i_1, i_2, i_3, i_4, i_5, i_6, i_7, i_8, n_0, n_1, n_2, n_3, n_4, n_5, reduceCtorEq, reduceIte, e0, e1, g2, f2', qb]) ?_)
      refine Try.al28 (y1, y2, y3) o2 rfl rfl (by exact .mk) (by omega) fun z h3 j3 o3 hj3 z3 f3 => ?_
      have g3 := (f3 r (by omega) (fun h => hj1 h.symm)).trans g2
      have o3z := o3.one
      have o3c := o3.cells
      refine vI ?_; repeat' (first
      | with_reducible first | refine Nx.h ?_ | (refine hK _ _ ?_; clear hK K)
      | ((with_reducible refine q_eo ?_ ?_); exact rfl)
      | ((with_reducible first | refine vO ?_ | (refine Ny.h ?_; intro K hK) | (refine c_drw (by decide +kernel) ?_; intro K hK) | refine c_cond ?_ | show endW _ _ _ _ _ | (refine Nz.h ?_ ?_ <;> intro _) | fail) <;> try simp (disch := first | exact dz | fail) only [go_sem, i_0, i_1, i_2, i_3, i_4, i_5, i_6, i_7, i_8, n_0, n_1, n_2, n_3, n_4, n_5, reduceCtorEq, reduceIte, e0, e1, g2, g3, f2', qb])
      | with_reducible refine obl_and (by simp (disch := first | exact dz | fail) only [go_sem, i_0, i_1, i_2, i_3, i_4, i_5, i_6, i_7, i_8, n_0, n_1, n_2, n_3, n_4, n_5, reduceCtorEq, reduceIte, e0, e1, g2, g3, f2', qb]) ?_)
      have o4 : ∃ j, Ow EF h3 j z (s.out ++ [(y1, y2, y3)]) ∧ ¬ j = r ∧ (j = jo ∨ h0.size ≤ j) := by
        by_cases hjs : j3 < h3.size
        · exact ⟨j3, o3, by omega, by omega⟩
        · exact ⟨h3.size, ow_re o3 hjs _ _, by omega, .inr (by omega)⟩
      obtain ⟨j4, o4, hj4, hj4'⟩ := o4
      refine hm _ z j4 (by rw [AH.get_set, if_pos rfl]) (o4.frame (fun _ => by rw [AH.get_set, if_neg hj4]) (by simp)) hj4 hj4' (by simp; omega) (fun x hx q1 q2 => by rw [AH.get_set, if_neg q1]; exact (f3 x (by omega) (by omega)).trans ((f2 x q1).trans (keep1 x hx)))
set_option maxHeartbeats 16000000 in
theorem unamed (r ib d p i : Nat) (bits : Int) (b x2 x3 x4 x5 x6 x7 : AV) (s : Rd) (Fr : AH → Prop) (h0 : AH) (g : h0.get r = some (.cells [.ptr (some (d, 0)), b, x2, x3, x4, x5, x6, x7])) (hs : r < h0.size) (dc : Dc h0 d p i s) (hr : ¬ r = d ∧ ¬ r = p ∧ ¬ r = i) (sb : ∀ h, Fr h → Sl E8 h ib b s.b) (hF : ∀ h, One r h0 h → Fr h) (hb : s.b.length ≤ 100000) (hl : s.l.length ≤ 1000000) :
    callW Try.prog Try.T 68 [.ptr (some (r, 0)), .int .i64 bits] h0 fun v h' => v = .tuple [.agg (EF.f (dNamed bits s).2.1), .int .i64 (dNamed bits s).1] ∧ (∃ b', h'.get r = some (.cells [.ptr (some (d, 0)), b', x2, x3, x4, x5, x6, x7]) ∧ ((dNamed bits s).1 = 0 → ∀ h, Fr h → Sl E8 h ib b' (dNamed bits s).2.2)) ∧ One r h0 h' := by
  refine callW_hide fun KK hKK => ?_
  unfold dNamed fd0 at hKK
  have hn := dNum_len bits s.b
  have cN := fun h => unum r ib bits b (.ptr (some (d, 0))) x2 x3 x4 x5 x6 x7 s.b Fr h
  refine callW_in (n := 57) (rs := [.cell 4 45, .tmp 5]) (m := 57) Try.func68 rfl rfl rfl rfl fun tr ht => ?_; have e0 := ht 0 _ rfl; have e1 := ht 1 _ rfl; clear ht
  repeat' (first
      | with_reducible first | refine Nx.h ?_ | (refine hK _ _ ?_; clear hK K)
      | ((with_reducible refine q_eo ?_ ?_); exact rfl)
      | ((with_reducible first | (refine Ny.h ?_; intro K hK) | (refine c_drw (by decide +kernel) ?_; intro K hK) | refine c_cond ?_ | show endW _ _ _ _ _ | (refine Nz.h ?_ ?_ <;> intro _) | fail) <;> try simp (disch := first | exact dz | fail) only [go_sem, i_0, i_1, i_2, i_3, i_4, i_5, i_6, i_7, i_8, n_0, n_1, n_2, n_3, n_4, n_5, reduceCtorEq, reduceIte, e0, e1]))
  refine callM_of (cN _ (by rw [AH.get_push, if_neg (by omega)]; exact g) (by simp; omega) sb (hF _ (One.refl _ _).pushN) hb) ?_
  clear cN
  generalize dNum bits s.b = q at *
  obtain ⟨e, n, rest⟩ := q
  simp only at hKK hn ⊢
  obtain ⟨n0, n1, n2, n3, n4⟩ := hn
  rintro v h1 ⟨rfl, ⟨b', g1, sb1⟩, o1⟩
  obtain ⟨o1, z1, ga⟩ := o1.push hs
  have dc1 := dc.one hr o1
  have gd := dc1.g
  by_cases he : e = 0
  · rw [if_neg (by omega)] at hKK
    subst he
    cases ho : s.owed with
    | true =>
      rw [if_pos ho] at hKK
      rw [ho] at gd
      refine vI ?_; repeat' (first
      | with_reducible first | refine Nx.h ?_ | (refine hK _ _ ?_; clear hK K)
      | ((with_reducible refine q_eo ?_ ?_); exact rfl)
      | ((with_reducible first | refine vO ?_ | (refine Ny.h ?_; intro K hK) | (refine c_drw (by decide +kernel) ?_; intro K hK) | refine c_cond ?_ | show endW _ _ _ _ _ | (refine Nz.h ?_ ?_ <;> intro _) | fail) <;> try simp (disch := first | exact dz | fail) only [go_sem, i_0, i_1, i_2, i_3, i_4, i_5, i_6, i_7, i_8, n_0, n_1, n_2, n_3, n_4, n_5, reduceCtorEq, reduceIte, e0, e1, g1, gd, ga, EFf]))
      refine hKK _ _ ⟨rfl, ⟨_, by rw [AH.get_set, if_neg (by omega)]; exact g1, fun h => by simp at h⟩, o1.setN (Nat.le_refl _)⟩
    | false =>
      rw [if_neg (by rw [ho]; decide)] at hKK
      rw [ho] at gd
      unfold dName at hKK
      by_cases hc : n > 0
      · rw [if_pos hc] at hKK
        refine vI ?_; repeat' (first
      | with_reducible first | refine Nx.h ?_ | (refine hK _ _ ?_; clear hK K)
      | ((with_reducible refine q_eo ?_ ?_); exact rfl)
      | ((with_reducible first | refine vO ?_ | (refine Ny.h ?_; intro K hK) | (refine c_drw (by decide +kernel) ?_; intro K hK) | refine c_cond ?_ | show endW _ _ _ _ _ | (refine Nz.h ?_ ?_ <;> intro _) | fail) <;> try simp (disch := first | exact dz | fail) only [go_sem, i_0, i_1, i_2, i_3, i_4, i_5, i_6, i_7, i_8, n_0, n_1, n_2, n_3, n_4, n_5, reduceCtorEq, reduceIte, e0, e1, g1, gd, ga, EFf]))
        refine cM_hide fun h2 hh2 => ?_
        have z2 : h2.size = h1.size + 1 := by rw [hh2]; simp
        have f2 : ∀ x, x < h1.size → h2.get x = h1.get x := fun x hx => by rw [hh2]; simp (disch := first | exact dz | fail) only [go_sem, i_0, i_1, i_2, i_3, i_4, i_5, i_6, i_7, i_8, n_0, n_1, n_2, n_3, n_4, n_5, reduceCtorEq, reduceIte]
        have gf2 : h2.get h1.size = some (.cells [.str [], .str [], .bool false]) := by rw [hh2]; simp (disch := first | exact dz | fail) only [go_sem, i_0, i_1, i_2, i_3, i_4, i_5, i_6, i_7, i_8, n_0, n_1, n_2, n_3, n_4, n_5, reduceCtorEq, reduceIte]
        clear hh2
        refine callM_of (uent r d p i n b' x2 x3 x4 x5 x6 x7 s h2 ((f2 r (by omega)).trans g1) (by omega) (dc1.frame (fun b hb _ => f2 b hb) (by omega)) ⟨n0, n1⟩ hl) ?_
        rintro v h3 ⟨rfl, k3⟩
        have z3 := k3.1
        have k3' : Keeps h1.size h1 h3 := ⟨by omega, fun x hx => (k3.2 x (by omega)).trans (f2 x hx)⟩
        have gf3 := (k3.2 h1.size (by omega)).trans gf2
        have ga3 := (k3'.2 h0.size z1).trans ga
        have g3 := (k3'.2 r (by omega)).trans g1
        have o3 := o1.trans (One.of k3')
        rcases hx : dEnt n s.l with ⟨⟨y1, y2, y3⟩, e⟩
        rw [hx] at hKK
        simp only at hKK ⊢
        rw [EFf]
        by_cases he : e = 0
        · rw [if_neg (by omega)] at hKK
          subst he
          refine vI ?_; repeat' (first
      | with_reducible first | refine Nx.h ?_ | (refine hK _ _ ?_; clear hK K)
      | ((with_reducible refine q_eo ?_ ?_); exact rfl)
      | ((with_reducible first | refine vO ?_ | (refine Ny.h ?_; intro K hK) | (refine c_drw (by decide +kernel) ?_; intro K hK) | refine c_cond ?_ | show endW _ _ _ _ _ | (refine Nz.h ?_ ?_ <;> intro _) | fail) <;> try simp (disch := first | exact dz | fail) only [go_sem, i_0, i_1, i_2, i_3, i_4, i_5, i_6, i_7, i_8, n_0, n_1, n_2, n_3, n_4, n_5, reduceCtorEq, reduceIte, e0, e1, g3, ga3, gf3, EFf]))
          refine cM_hide fun h4 hh4 => ?_
          have z4 : h4.size = h3.size := by rw [hh4]; simp
          have f4 : ∀ x, ¬ x = h1.size → h4.get x = h3.get x := fun x hx => by rw [hh4]; simp (disch := first | exact dz | fail) only [go_sem, i_0, i_1, i_2, i_3, i_4, i_5, i_6, i_7, i_8, n_0, n_1, n_2, n_3, n_4, n_5, reduceCtorEq, reduceIte]
          have gf4 : h4.get h1.size = some (.cells [.str y1, .str y2, .bool y3]) := by rw [hh4]; simp (disch := first | exact dz | fail) only [go_sem, i_0, i_1, i_2, i_3, i_4, i_5, i_6, i_7, i_8, n_0, n_1, n_2, n_3, n_4, n_5, reduceCtorEq, reduceIte]
          clear hh4
          have g4 := (f4 r (by omega)).trans g3
          have ga4 := (f4 h0.size (by omega)).trans ga3
          have o4 : One r h0 h4 := ⟨by omega, fun x hx hxr => (f4 x (by omega)).trans (o3.2 x hx hxr)⟩
          have sb4 := sb1
          have hb4 : rest.length ≤ 100000 := by omega
          refine callM_of (utext r ib b' (.ptr (some (d, 0))) x2 x3 x4 x5 x6 x7 rest Fr h4 g4 (by omega) sb4 (fun h ho => hF h (o4.trans ho)) hb4) ?_
          rintro v h5 ⟨rfl, ⟨b5, g5, sb5⟩, o5⟩
          have z5 := o5.1
          have gf5 := (o5.2 h1.size (by omega) (by omega)).trans gf4
          have ga5 := (o5.2 h0.size (by omega) (by omega)).trans ga4
          have o5 := o4.trans o5
          rcases hx5 : dText rest with ⟨e5, y5, rest5⟩
          rw [hx5] at hKK sb5
          simp only at hKK sb5 ⊢
          rw [EFf] at hKK
          refine vI ?_; repeat' (first
      | with_reducible first | refine Nx.h ?_ | (refine hK _ _ ?_; clear hK K)
      | ((with_reducible refine q_eo ?_ ?_); exact rfl)
      | ((with_reducible first | refine vO ?_ | (refine Ny.h ?_; intro K hK) | (refine c_drw (by decide +kernel) ?_; intro K hK) | refine c_cond ?_ | show endW _ _ _ _ _ | (refine Nz.h ?_ ?_ <;> intro _) | fail) <;> try simp (disch := first | exact dz | fail) only [go_sem, i_0, i_1, i_2, i_3, i_4, i_5, i_6, i_7, i_8, n_0, n_1, n_2, n_3, n_4, n_5, reduceCtorEq, reduceIte, e0, e1, g5, ga5, gf5, EFf]))
          refine hKK _ _ ⟨rfl, ⟨_, by rw [AH.get_set, if_neg (by omega), AH.get_set, if_neg (by omega)]; exact g5, fun _ => sb5⟩, (o5.setN (by omega)).setN (Nat.le_refl _)⟩
        · rw [if_pos he] at hKK
          refine vI ?_; repeat' (first
      | with_reducible first | refine Nx.h ?_ | (refine hK _ _ ?_; clear hK K)
      | ((with_reducible refine q_eo ?_ ?_); exact rfl)
      | ((with_reducible first | refine vO ?_ | (refine Ny.h ?_; intro K hK) | (refine c_drw (by decide +kernel) ?_; intro K hK) | refine c_cond ?_ | show endW _ _ _ _ _ | (refine Nz.h ?_ ?_ <;> intro _) | fail) <;> try simp (disch := first | exact dz | fail) only [go_sem, i_0, i_1, i_2, i_3, i_4, i_5, i_6, i_7, i_8, n_0, n_1, n_2, n_3, n_4, n_5, reduceCtorEq, reduceIte, e0, e1, g3, ga3, gf3, EFf]))
          refine hKK _ _ ⟨rfl, ⟨_, by rw [AH.get_set, if_neg (by omega), AH.get_set, if_neg (by omega)]; exact g3, fun h => absurd h he⟩, (o3.setN (by omega)).setN (Nat.le_refl _)⟩
      · rw [if_neg hc] at hKK
        refine vI ?_; repeat' (first
      | with_reducible first | refine Nx.h ?_ | (refine hK _ _ ?_; clear hK K)
      | ((with_reducible refine q_eo ?_ ?_); exact rfl)
      | ((with_reducible first | refine vO ?_ | (refine Ny.h ?_; intro K hK) | (refine c_drw (by decide +kernel) ?_; intro K hK) | refine c_cond ?_ | show endW _ _ _ _ _ | (refine Nz.h ?_ ?_ <;> intro _) | fail) <;> try simp (disch := first | exact dz | fail) only [go_sem, i_0, i_1, i_2, i_3, i_4, i_5, i_6, i_7, i_8, n_0, n_1, n_2, n_3, n_4, n_5, reduceCtorEq, reduceIte, e0, e1, g1, gd, ga, EFf]))
        refine cM_hide fun h2 hh2 => ?_
        have z2 : h2.size = h1.size + 1 := by rw [hh2]; simp
        have f2 : ∀ x, x < h1.size → h2.get x = h1.get x := fun x hx => by rw [hh2]; simp (disch := first | exact dz | fail) only [go_sem, i_0, i_1, i_2, i_3, i_4, i_5, i_6, i_7, i_8, n_0, n_1, n_2, n_3, n_4, n_5, reduceCtorEq, reduceIte]
        have gf2 : h2.get h1.size = some (.cells [.str [], .str [], .bool false]) := by rw [hh2]; simp (disch := first | exact dz | fail) only [go_sem, i_0, i_1, i_2, i_3, i_4, i_5, i_6, i_7, i_8, n_0, n_1, n_2, n_3, n_4, n_5, reduceCtorEq, reduceIte]
        clear hh2
        have o2 : One r h0 h2 := o1.trans ⟨by omega, fun x hx _ => f2 x hx⟩
        refine callM_of (utext r ib b' (.ptr (some (d, 0))) x2 x3 x4 x5 x6 x7 rest Fr h2 ((f2 r (by omega)).trans g1) (by omega) sb1 (fun h ho => hF h (o2.trans ho)) (by omega)) ?_
        rintro v h3 ⟨rfl, ⟨b3, g3, sb3⟩, o3⟩
        have z3 := o3.1
        have gf3 := (o3.2 h1.size (by omega) (by omega)).trans gf2
        have ga3 := (o3.2 h0.size (by omega) (by omega)).trans ((f2 h0.size z1).trans ga)
        have o3 := o2.trans o3
        have ht := dText_len rest
        rcases hx : dText rest with ⟨e, y1, rest2⟩
        rw [hx] at hKK sb3 ht
        simp only at hKK sb3 ht ⊢
        by_cases he : e = 0
        · rw [if_neg (by omega)] at hKK
          subst he
          refine vI ?_; repeat' (first
      | with_reducible first | refine Nx.h ?_ | (refine hK _ _ ?_; clear hK K)
      | ((with_reducible refine q_eo ?_ ?_); exact rfl)
      | ((with_reducible first | refine vO ?_ | (refine Ny.h ?_; intro K hK) | (refine c_drw (by decide +kernel) ?_; intro K hK) | refine c_cond ?_ | show endW _ _ _ _ _ | (refine Nz.h ?_ ?_ <;> intro _) | fail) <;> try simp (disch := first | exact dz | fail) only [go_sem, i_0, i_1, i_2, i_3, i_4, i_5, i_6, i_7, i_8, n_0, n_1, n_2, n_3, n_4, n_5, reduceCtorEq, reduceIte, e0, e1, g3, ga3, gf3, EFf]))
          refine cM_hide fun h4 hh4 => ?_
          have z4 : h4.size = h3.size := by rw [hh4]; simp
          have f4 : ∀ x, ¬ x = h1.size → h4.get x = h3.get x := fun x hx => by rw [hh4]; simp (disch := first | exact dz | fail) only [go_sem, i_0, i_1, i_2, i_3, i_4, i_5, i_6, i_7, i_8, n_0, n_1, n_2, n_3, n_4, n_5, reduceCtorEq, reduceIte]
          have gf4 : h4.get h1.size = some (.cells [.str y1, .str [], .bool false]) := by rw [hh4]; simp (disch := first | exact dz | fail) only [go_sem, i_0, i_1, i_2, i_3, i_4, i_5, i_6, i_7, i_8, n_0, n_1, n_2, n_3, n_4, n_5, reduceCtorEq, reduceIte]
          clear hh4
          have g4 := (f4 r (by omega)).trans g3
          have ga4 := (f4 h0.size (by omega)).trans ga3
          have o4 : One r h0 h4 := ⟨by omega, fun x hx hxr => (f4 x (by omega)).trans (o3.2 x hx hxr)⟩
          have sb4 := sb3
          have hb4 : rest2.length ≤ 100000 := by omega
          refine callM_of (utext r ib b3 (.ptr (some (d, 0))) x2 x3 x4 x5 x6 x7 rest2 Fr h4 g4 (by omega) sb4 (fun h ho => hF h (o4.trans ho)) hb4) ?_
          rintro v h5 ⟨rfl, ⟨b5, g5, sb5⟩, o5⟩
          have z5 := o5.1
          have gf5 := (o5.2 h1.size (by omega) (by omega)).trans gf4
          have ga5 := (o5.2 h0.size (by omega) (by omega)).trans ga4
          have o5 := o4.trans o5
          rcases hx5 : dText rest2 with ⟨e5, y5, rest5⟩
          rw [hx5] at hKK sb5
          simp only at hKK sb5 ⊢
          rw [EFf] at hKK
          refine vI ?_; repeat' (first
      | with_reducible first | refine Nx.h ?_ | (refine hK _ _ ?_; clear hK K)
      | ((with_reducible refine q_eo ?_ ?_); exact rfl)
      | ((with_reducible first | refine vO ?_ | (refine Ny.h ?_; intro K hK) | (refine c_drw (by decide +kernel) ?_; intro K hK) | refine c_cond ?_ | show endW _ _ _ _ _ | (refine Nz.h ?_ ?_ <;> intro _) | fail) <;> try simp (disch := first | exact dz | fail) only [go_sem, i_0, i_1, i_2, i_3, i_4, i_5, i_6, i_7, i_8, n_0, n_1, n_2, n_3, n_4, n_5, reduceCtorEq, reduceIte, e0, e1, g5, ga5, gf5, EFf]))
          refine hKK _ _ ⟨rfl, ⟨_, by rw [AH.get_set, if_neg (by omega), AH.get_set, if_neg (by omega)]; exact g5, fun _ => sb5⟩, (o5.setN (by omega)).setN (Nat.le_refl _)⟩
        · rw [if_pos he] at hKK
          refine vI ?_; repeat' (first
      | with_reducible first | refine Nx.h ?_ | (refine hK _ _ ?_; clear hK K)
      | ((with_reducible refine q_eo ?_ ?_); exact rfl)
      | ((with_reducible first | refine vO ?_ | (refine Ny.h ?_; intro K hK) | (refine c_drw (by decide +kernel) ?_; intro K hK) | refine c_cond ?_ | show endW _ _ _ _ _ | (refine Nz.h ?_ ?_ <;> intro _) | fail) <;> try simp (disch := first | exact dz | fail) only [go_sem, i_0, i_1, i_2, i_3, i_4, i_5, i_6, i_7, i_8, n_0, n_1, n_2, n_3, n_4, n_5, reduceCtorEq, reduceIte, e0, e1, g3, ga3, gf3, EFf]))
          refine hKK _ _ ⟨rfl, ⟨_, by rw [AH.get_set, if_neg (by omega), AH.get_set, if_neg (by omega)]; exact g3, fun h => absurd h he⟩, (o3.setN (by omega)).setN (Nat.le_refl _)⟩
  · rw [if_pos he] at hKK
    refine vI ?_; repeat' (first
      | with_reducible first | refine Nx.h ?_ | (refine hK _ _ ?_; clear hK K)
      | ((with_reducible refine q_eo ?_ ?_); exact rfl)
      | ((with_reducible first | refine vO ?_ | (refine Ny.h ?_; intro K hK) | (refine c_drw (by decide +kernel) ?_; intro K hK) | refine c_cond ?_ | show endW _ _ _ _ _ | (refine Nz.h ?_ ?_ <;> intro _) | fail) <;> try simp (disch := first | exact dz | fail) only [go_sem, i_0, i_1, i_2, i_3, i_4, i_5, i_6, i_7, i_8, n_0, n_1, n_2, n_3, n_4, n_5, reduceCtorEq, reduceIte, e0, e1, g1, gd, ga, EFf]))
    refine hKK _ _ ⟨rfl, ⟨_, by rw [AH.get_set, if_neg (by omega)]; exact g1, fun h => absurd h he⟩, o1.setN (Nat.le_refl _)⟩
end Go.Proofs.Ytmpeofjfagdgkaa
