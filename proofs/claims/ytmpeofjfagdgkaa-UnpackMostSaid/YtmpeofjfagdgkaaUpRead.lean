/- unpack: number, text, entry, of the code. -/
import Derived.Test.YtmpeofjfagdgkaaUpPlain
set_option linter.unusedSimpArgs false
set_option linter.unusedVariables false
namespace Go.Proofs.Ytmpeofjfagdgkaa
open Go.Abs
open Int renaming reduceEq → i_0, reduceLE → i_1, reduceLT → i_2, reduceNe → i_3, reduceNeg → i_4, reduceAdd → i_5, reduceSub → i_6, reduceMul → i_7, reduceToNat → i_8
open Nat renaming reduceLT → n_0, reduceLeDiff → n_1, reduceEqDiff → n_2, reduceAdd → n_3, reduceSub → n_4, reduceMul → n_5
set_option maxRecDepth 100000
set_option maxHeartbeats 4000000 in
theorem sstat (n : Int) (h0 : AH) (hn : -9000000000000 ≤ n ∧ n ≤ 9000000000000) : callW Try.prog Try.T 86 [.int .i64 n] h0 fun v h' => v = .tuple [.agg (EF.f (statG n).1), .int .i64 (statG n).2] ∧ Keeps h0.size h0 h' := by
  refine callW_hide fun KK hKK => ?_
  unfold statG fd0 at hKK
  refine callW_in (n := 21) (rs := [.cell 2 45, .tmp 3]) (m := 21) Try.func86 rfl rfl rfl rfl fun tr ht => ?_; have e0 := ht 0 _ rfl; clear ht
  repeat' (first
      | with_reducible first | refine Nx.h ?_ | (refine hK _ _ ?_; clear hK K)
      | ((with_reducible refine q_eo ?_ ?_); exact rfl)
      | ((with_reducible first | (refine Ny.h ?_; intro K hK) | (refine c_drw (by decide +kernel) ?_; intro K hK) | refine c_cond ?_ | show endW _ _ _ _ _ | (refine Nz.h ?_ ?_ <;> intro _) | fail) <;> try simp (disch := first | exact dz | fail) only [go_sem, i_0, i_1, i_2, i_3, i_4, i_5, i_6, i_7, i_8, n_0, n_1, n_2, n_3, n_4, n_5, reduceCtorEq, reduceIte, e0]))
  refine callM_of (statF _) ?_
  rintro v h1 ⟨rfl, hh1⟩
  have z1 : h1.size = h0.size + 2 := by rw [hh1]; simp (disch := first | exact dz | fail) only [go_sem, i_0, i_1, i_2, i_3, i_4, i_5, i_6, i_7, i_8, n_0, n_1, n_2, n_3, n_4, n_5, reduceCtorEq, reduceIte]
  have g1 : h1.get (h0.size + 1) = some (.cells (ES.all statS)) := by rw [hh1]; simp (disch := first | exact dz | fail) only [go_sem, i_0, i_1, i_2, i_3, i_4, i_5, i_6, i_7, i_8, n_0, n_1, n_2, n_3, n_4, n_5, reduceCtorEq, reduceIte]
  have g0 : h1.get h0.size = some (.cells [.str [], .str [], .bool false]) := by rw [hh1]; simp (disch := first | exact dz | fail) only [go_sem, i_0, i_1, i_2, i_3, i_4, i_5, i_6, i_7, i_8, n_0, n_1, n_2, n_3, n_4, n_5, reduceCtorEq, reduceIte]
  have k1 : Keeps h0.size h0 h1 := by rw [hh1]; exact ((Keeps.refl _ _).push (Nat.le_refl _) _).push (by simp) _
  clear hh1
  simp (disch := first | exact dz | fail) only [go_sem, i_0, i_1, i_2, i_3, i_4, i_5, i_6, i_7, i_8, n_0, n_1, n_2, n_3, n_4, n_5, reduceCtorEq, reduceIte]
  have o1 : Ow ES h1 (h0.size + 1) (.slice (some (h0.size + 1, 0)) 61 61 1 true) statS := .full _ _ _ g1 (by omega) rfl
  generalize (AV.slice (some (h0.size + 1, 0)) 61 61 1 true) = a at *
  have sl := o1.sl
  have hsl := statS_len
  by_cases hc : n < 1 ∨ n > 61
  · rw [if_pos hc] at hKK
    refine vI ?_; repeat' (first
      | with_reducible first | refine Nx.h ?_ | (refine hK _ _ ?_; clear hK K)
      | ((with_reducible refine q_eo ?_ ?_); exact rfl)
      | ((with_reducible first | refine vO ?_ | (refine Ny.h ?_; intro K hK) | (refine c_drw (by decide +kernel) ?_; intro K hK) | refine c_cond ?_ | show endW _ _ _ _ _ | (refine Nz.h ?_ ?_ <;> intro _) | fail) <;> try simp (disch := first | exact dz | fail) only [go_sem, i_0, i_1, i_2, i_3, i_4, i_5, i_6, i_7, i_8, n_0, n_1, n_2, n_3, n_4, n_5, reduceCtorEq, reduceIte, e0, g0]))
    all_goals exact hKK _ _ ⟨rfl, k1.set (Nat.le_refl _) _⟩
  · rw [if_neg hc] at hKK
    obtain ⟨hcut, hnv, hln, _⟩ := stat_cut (n.toNat - 1) (by omega)
    have hni : ((n.toNat - 1 : Nat) : Int) = n - 1 := by omega
    have ld : loadA Try.T h1 9 (a.at ES.sz 0 (n - 1)) = some (.str (statS[n.toNat - 1]!)) := by
      rw [← hni]
      exact sl.ld (by omega) (by omega) (by rw [Int.toNat_natCast]; rfl) (by decide) rfl rfl
    refine vI ?_; repeat' (first
      | with_reducible first | refine Nx.h ?_ | (refine hK _ _ ?_; clear hK K)
      | ((with_reducible refine q_eo ?_ ?_); exact rfl)
      | ((with_reducible first | refine vO ?_ | (refine Ny.h ?_; intro K hK) | (refine c_drw (by decide +kernel) ?_; intro K hK) | refine c_cond ?_ | show endW _ _ _ _ _ | (refine Nz.h ?_ ?_ <;> intro _) | fail) <;> try simp (disch := first | exact dz | fail) only [go_sem, i_0, i_1, i_2, i_3, i_4, i_5, i_6, i_7, i_8, n_0, n_1, n_2, n_3, n_4, n_5, reduceCtorEq, reduceIte, e0, ld]))
    refine callM_of (cut3 (statS[n.toNat - 1]!) h1 (by omega)) ?_
    rintro v h3 ⟨rfl, k3⟩
    rw [hcut]
    have hfl : ((statL[n.toNat - 1]!).1, (statL[n.toNat - 1]!).2.1, false) = statL[n.toNat - 1]! := by rw [← hnv]
    simp only [hfl]
    have z3 := k3.1
    have g3 : h3.get h0.size = some (.cells [.str [], .str [], .bool false]) := (k3.2 _ (by omega)).trans g0
    rcases hx : statL[n.toNat - 1]! with ⟨x1, x2, x3⟩
    rw [hx, EFf] at hKK
    refine vI ?_; repeat' (first
      | with_reducible first | refine Nx.h ?_ | (refine hK _ _ ?_; clear hK K)
      | ((with_reducible refine q_eo ?_ ?_); exact rfl)
      | ((with_reducible first | refine vO ?_ | (refine Ny.h ?_; intro K hK) | (refine c_drw (by decide +kernel) ?_; intro K hK) | refine c_cond ?_ | show endW _ _ _ _ _ | (refine Nz.h ?_ ?_ <;> intro _) | fail) <;> try simp (disch := first | exact dz | fail) only [go_sem, i_0, i_1, i_2, i_3, i_4, i_5, i_6, i_7, i_8, n_0, n_1, n_2, n_3, n_4, n_5, reduceCtorEq, reduceIte, e0, EFf, g3]))
    exact hKK _ _ ⟨rfl, (k1.trans k3 (by omega)).set (Nat.le_refl _) _⟩
/-- Nothing but block r is changed, and nothing is new. -/
def One (r : Nat) (h h' : AH) : Prop := h.size ≤ h'.size ∧ ∀ x, x < h.size → ¬ x = r → h'.get x = h.get x
theorem One.refl (r : Nat) (h : AH) : One r h h := ⟨Nat.le_refl _, fun _ _ _ => rfl⟩
theorem One.trans {r : Nat} {h h1 h2 : AH} (a : One r h h1) (b : One r h1 h2) : One r h h2 := ⟨Nat.le_trans a.1 b.1, fun x hx hr => (b.2 x (Nat.lt_of_lt_of_le hx a.1) hr).trans (a.2 x hx hr)⟩
theorem One.of {r : Nat} {h h1 : AH} (k : Keeps h.size h h1) : One r h h1 := ⟨k.1, fun x hx _ => k.2 x hx⟩
theorem sl_dr {h : AH} {i : Nat} {b : AV} {l : List UInt8} (s : Sl E8 h i b l) {k : Int} (h0 : 0 ≤ k) (h1 : k ≤ l.length) : Sl E8 h i (b.part k l.length) (l.drop k.toNat) := by
  have := s.part (lo := k) (hi := l.length) h0 h1 (Int.le_refl _)
  have e : (l.drop k.toNat).take ((l.length : Int).toNat - k.toNat) = l.drop k.toNat := List.take_of_length_le (by simp)
  rwa [e] at this
set_option maxHeartbeats 4000000 in
theorem unum (r ib : Nat) (bits : Int) (b x0 x2 x3 x4 x5 x6 x7 : AV) (l : List UInt8) (Fr : AH → Prop) (h0 : AH) (g : h0.get r = some (.cells [x0, b, x2, x3, x4, x5, x6, x7])) (hs : r < h0.size) (sb : ∀ h, Fr h → Sl E8 h ib b l) (hF : Fr h0) (hl : l.length ≤ 100000) :
    callW Try.prog Try.T 76 [.ptr (some (r, 0)), .int .i64 bits] h0 fun v h' => v = .tuple [.int .i64 (dNum bits l).2.1, .int .i64 (dNum bits l).1] ∧ (∃ b', h'.get r = some (.cells [x0, b', x2, x3, x4, x5, x6, x7]) ∧ ∀ h, Fr h → Sl E8 h ib b' (dNum bits l).2.2) ∧ One r h0 h' := by
  refine callW_hide fun KK hKK => ?_
  have s0 := sb h0 hF
  have bc := s0.cells
  refine callW_in (n := 31) (rs := [.tmp 4, .tmp 5]) (m := 31) Try.func76 rfl rfl rfl rfl fun tr ht => ?_; have e0 := ht 0 _ rfl; have e1 := ht 1 _ rfl; clear ht
  repeat' (first
      | with_reducible first | refine Nx.h ?_ | (refine hK _ _ ?_; clear hK K)
      | ((with_reducible refine q_eo ?_ ?_); exact rfl)
      | ((with_reducible first | (refine Ny.h ?_; intro K hK) | (refine c_drw (by decide +kernel) ?_; intro K hK) | refine c_cond ?_ | show endW _ _ _ _ _ | (refine Nz.h ?_ ?_ <;> intro _) | fail) <;> try simp (disch := first | exact dz | fail) only [go_sem, i_0, i_1, i_2, i_3, i_4, i_5, i_6, i_7, i_8, n_0, n_1, n_2, n_3, n_4, n_5, reduceCtorEq, reduceIte, e0, e1, g]))
  refine callM_of (get b ib l bits h0 s0 (by omega)) ?_
  rintro v h1 ⟨rfl, rfl⟩
  have hlen := getS_len bits l
  unfold dNum at hKK
  rcases hg : getS bits l with ⟨n, k, e⟩
  rw [hg] at hKK hlen
  unfold enc3
  simp only at hKK hlen ⊢
  by_cases he : e = 0
  · subst he
    rw [if_pos rfl] at hKK
    obtain ⟨q1, q2, q3, q4⟩ := hlen rfl
    have sp : ∀ h, Fr h → Sl E8 h ib (b.part k l.length) (l.drop k.toNat) := fun h hF => sl_dr (sb h hF) (by omega) q4
    have sp1 := sp h1 hF
    have bc1 := sp1.cells
    refine vI ?_; repeat' (first
      | with_reducible first | refine Nx.h ?_ | (refine hK _ _ ?_; clear hK K)
      | ((with_reducible refine q_eo ?_ ?_); exact rfl)
      | ((with_reducible first | refine vO ?_ | (refine Ny.h ?_; intro K hK) | (refine c_drw (by decide +kernel) ?_; intro K hK) | refine c_cond ?_ | show endW _ _ _ _ _ | (refine Nz.h ?_ ?_ <;> intro _) | fail) <;> try simp (disch := first | exact dz | fail) only [go_sem, i_0, i_1, i_2, i_3, i_4, i_5, i_6, i_7, i_8, n_0, n_1, n_2, n_3, n_4, n_5, reduceCtorEq, reduceIte, e0, e1, g]))
    exact hKK _ _ ⟨rfl, ⟨_, by rw [AH.get_set, if_pos rfl], sp⟩, ⟨by simp, fun x _ hx => by rw [AH.get_set, if_neg hx]⟩⟩
  · rw [if_neg he] at hKK
    refine vI ?_; repeat' (first
      | with_reducible first | refine Nx.h ?_ | (refine hK _ _ ?_; clear hK K)
      | ((with_reducible refine q_eo ?_ ?_); exact rfl)
      | ((with_reducible first | refine vO ?_ | (refine Ny.h ?_; intro K hK) | (refine c_drw (by decide +kernel) ?_; intro K hK) | refine c_cond ?_ | show endW _ _ _ _ _ | (refine Nz.h ?_ ?_ <;> intro _) | fail) <;> try simp (disch := first | exact dz | fail) only [go_sem, i_0, i_1, i_2, i_3, i_4, i_5, i_6, i_7, i_8, n_0, n_1, n_2, n_3, n_4, n_5, reduceCtorEq, reduceIte, e0, e1, g]))
    exact hKK _ _ ⟨rfl, ⟨_, g, sb⟩, One.refl _ _⟩
set_option maxHeartbeats 8000000 in
theorem utext (r ib : Nat) (b x0 x2 x3 x4 x5 x6 x7 : AV) (l : List UInt8) (Fr : AH → Prop) (h0 : AH) (g : h0.get r = some (.cells [x0, b, x2, x3, x4, x5, x6, x7])) (hs : r < h0.size) (sb : ∀ h, Fr h → Sl E8 h ib b l) (hF : ∀ h, One r h0 h → Fr h) (hl : l.length ≤ 100000) :
    callW Try.prog Try.T 78 [.ptr (some (r, 0))] h0 fun v h' => v = .tuple [.str (dText l).2.1, .int .i64 (dText l).1] ∧ (∃ b', h'.get r = some (.cells [x0, b', x2, x3, x4, x5, x6, x7]) ∧ ∀ h, Fr h → Sl E8 h ib b' (dText l).2.2) ∧ One r h0 h' := by
  refine callW_hide fun KK hKK => ?_
  have s0 := sb h0 (hF _ (One.refl _ _))
  have bc := s0.cells
  refine callW_in (n := 61) (rs := [.tmp 2, .tmp 3]) (m := 61) Try.func78 rfl rfl rfl rfl fun tr ht => ?_; have e0 := ht 0 _ rfl; clear ht
  have hc3 : (0 < l.length ∧ coded l = true ∧ 128 ≤ ((l[0]!).toNat : Int)) ∨ (0 < l.length ∧ coded l = false ∧ ¬ 128 ≤ ((l[0]!).toNat : Int)) ∨ (¬ 0 < l.length ∧ coded l = false) := by
    cases l with
    | nil => right; right; exact ⟨by simp, rfl⟩
    | cons c r =>
      have e1 : coded (c :: r) = decide (128 ≤ c.toNat) := rfl
      have e2 : ((c :: r)[0]!) = c := rfl
      rw [e1, e2]
      by_cases h : 128 ≤ c.toNat
      · exact .inl ⟨by simp, by simpa using h, by omega⟩
      · exact .inr (.inl ⟨by simp, by simpa using h, by omega⟩)
  unfold dText at hKK
  have hn := dNum_len 7 l
  have cN := unum r ib 7 b x0 x2 x3 x4 x5 x6 x7 l Fr h0 g hs sb (hF _ (One.refl _ _)) hl
  generalize dNum 7 l = q at *
  obtain ⟨e, n, rest⟩ := q
  simp only at hKK hn cN
  obtain ⟨n0, n1, n2, n3, n4⟩ := hn
  rcases hc3 with ⟨hz, hc, h9⟩ | ⟨hz, hc, h9⟩ | ⟨hz, hc⟩
  · rw [hc] at hKK
    clear hc
    repeat' (first
      | with_reducible first | refine Nx.h ?_ | (refine hK _ _ ?_; clear hK K)
      | ((with_reducible refine q_eo ?_ ?_); exact rfl)
      | ((with_reducible first | (refine Ny.h ?_; intro K hK) | (refine c_drw (by decide +kernel) ?_; intro K hK) | refine c_cond ?_ | show endW _ _ _ _ _ | (refine Nz.h ?_ ?_ <;> intro _) | fail) <;> try simp (disch := first | exact dz | fail) only [go_sem, i_0, i_1, i_2, i_3, i_4, i_5, i_6, i_7, i_8, n_0, n_1, n_2, n_3, n_4, n_5, reduceCtorEq, reduceIte, e0, g]))
    refine callM_of cN ?_
    rintro v h1 ⟨rfl, ⟨b', g1, sb1⟩, o1⟩
    have s1 := sb1 h1 (hF _ o1)
    by_cases he : e = 0
    · by_cases hb : n > rest.length
      · rw [if_pos (.inr hb)] at hKK
        refine vI ?_; repeat' (first
      | with_reducible first | refine Nx.h ?_ | (refine hK _ _ ?_; clear hK K)
      | ((with_reducible refine q_eo ?_ ?_); exact rfl)
      | ((with_reducible first | refine vO ?_ | (refine Ny.h ?_; intro K hK) | (refine c_drw (by decide +kernel) ?_; intro K hK) | refine c_cond ?_ | show endW _ _ _ _ _ | (refine Nz.h ?_ ?_ <;> intro _) | fail) <;> try simp (disch := first | exact dz | fail) only [go_sem, i_0, i_1, i_2, i_3, i_4, i_5, i_6, i_7, i_8, n_0, n_1, n_2, n_3, n_4, n_5, reduceCtorEq, reduceIte, e0, g1]))
        exact hKK _ _ ⟨rfl, ⟨_, g1, sb1⟩, o1⟩
      · rw [if_neg (by omega)] at hKK
        have sp : ∀ h, Fr h → Sl E8 h ib (b'.part n rest.length) (rest.drop n.toNat) := fun h hF => sl_dr (sb1 h hF) (by omega) (by omega)
        have st : ∀ h, Fr h → Sl E8 h ib (b'.part 0 n) (rest.take n.toNat) := fun h hF => by simpa using (sb1 h hF).part (lo := 0) (hi := n) (by omega) (by omega) (by omega)
        have sp1 := sp h1 (hF _ o1)
        have oc : ∀ c, One r h0 (h1.set r c) := fun c => o1.trans ⟨by simp, fun x _ hx => by rw [AH.get_set, if_neg hx]⟩
        have hs1 : r < h1.size := by have := o1.1; omega
        rw [if_pos rfl] at hKK
        refine vI ?_; repeat' (first
      | with_reducible first | refine Nx.h ?_ | (refine hK _ _ ?_; clear hK K)
      | ((with_reducible refine q_eo ?_ ?_); exact rfl)
      | ((with_reducible first | refine vO ?_ | (refine Ny.h ?_; intro K hK) | (refine c_drw (by decide +kernel) ?_; intro K hK) | refine c_cond ?_ | show endW _ _ _ _ _ | (refine Nz.h ?_ ?_ <;> intro _) | fail) <;> try simp (disch := first | exact dz | fail) only [go_sem, i_0, i_1, i_2, i_3, i_4, i_5, i_6, i_7, i_8, n_0, n_1, n_2, n_3, n_4, n_5, reduceCtorEq, reduceIte, e0, g1]))
        refine callM_of (hget (b'.part 0 n) ib (rest.take n.toNat) _ (st _ (hF _ (oc _))) (by rw [List.length_take]; omega)) ?_
        rintro v h2 ⟨rfl, k2⟩
        unfold encG
        refine vI ?_; repeat' (first
      | with_reducible first | refine Nx.h ?_ | (refine hK _ _ ?_; clear hK K)
      | ((with_reducible refine q_eo ?_ ?_); exact rfl)
      | ((with_reducible first | refine vO ?_ | (refine Ny.h ?_; intro K hK) | (refine c_drw (by decide +kernel) ?_; intro K hK) | refine c_cond ?_ | show endW _ _ _ _ _ | (refine Nz.h ?_ ?_ <;> intro _) | fail) <;> try simp (disch := first | exact dz | fail) only [go_sem, i_0, i_1, i_2, i_3, i_4, i_5, i_6, i_7, i_8, n_0, n_1, n_2, n_3, n_4, n_5, reduceCtorEq, reduceIte, e0, g1]))
        exact hKK _ _ ⟨rfl, ⟨_, (k2.2 r (by simpa using hs1)).trans (by rw [AH.get_set, if_pos rfl]), sp⟩, (oc _).trans (One.of k2)⟩
    · rw [if_pos (.inl he)] at hKK
      refine vI ?_; repeat' (first
      | with_reducible first | refine Nx.h ?_ | (refine hK _ _ ?_; clear hK K)
      | ((with_reducible refine q_eo ?_ ?_); exact rfl)
      | ((with_reducible first | refine vO ?_ | (refine Ny.h ?_; intro K hK) | (refine c_drw (by decide +kernel) ?_; intro K hK) | refine c_cond ?_ | show endW _ _ _ _ _ | (refine Nz.h ?_ ?_ <;> intro _) | fail) <;> try simp (disch := first | exact dz | fail) only [go_sem, i_0, i_1, i_2, i_3, i_4, i_5, i_6, i_7, i_8, n_0, n_1, n_2, n_3, n_4, n_5, reduceCtorEq, reduceIte, e0, g1]))
      exact hKK _ _ ⟨rfl, ⟨_, g1, sb1⟩, o1⟩
  · rw [hc] at hKK
    clear hc
    repeat' (first
      | with_reducible first | refine Nx.h ?_ | (refine hK _ _ ?_; clear hK K)
      | ((with_reducible refine q_eo ?_ ?_); exact rfl)
      | ((with_reducible first | (refine Ny.h ?_; intro K hK) | (refine c_drw (by decide +kernel) ?_; intro K hK) | refine c_cond ?_ | show endW _ _ _ _ _ | (refine Nz.h ?_ ?_ <;> intro _) | fail) <;> try simp (disch := first | exact dz | fail) only [go_sem, i_0, i_1, i_2, i_3, i_4, i_5, i_6, i_7, i_8, n_0, n_1, n_2, n_3, n_4, n_5, reduceCtorEq, reduceIte, e0, g]))
    refine callM_of cN ?_
    rintro v h1 ⟨rfl, ⟨b', g1, sb1⟩, o1⟩
    have s1 := sb1 h1 (hF _ o1)
    by_cases he : e = 0
    · by_cases hb : n > rest.length
      · rw [if_pos (.inr hb)] at hKK
        refine vI ?_; repeat' (first
      | with_reducible first | refine Nx.h ?_ | (refine hK _ _ ?_; clear hK K)
      | ((with_reducible refine q_eo ?_ ?_); exact rfl)
      | ((with_reducible first | refine vO ?_ | (refine Ny.h ?_; intro K hK) | (refine c_drw (by decide +kernel) ?_; intro K hK) | refine c_cond ?_ | show endW _ _ _ _ _ | (refine Nz.h ?_ ?_ <;> intro _) | fail) <;> try simp (disch := first | exact dz | fail) only [go_sem, i_0, i_1, i_2, i_3, i_4, i_5, i_6, i_7, i_8, n_0, n_1, n_2, n_3, n_4, n_5, reduceCtorEq, reduceIte, e0, g1]))
        exact hKK _ _ ⟨rfl, ⟨_, g1, sb1⟩, o1⟩
      · rw [if_neg (by omega)] at hKK
        have sp : ∀ h, Fr h → Sl E8 h ib (b'.part n rest.length) (rest.drop n.toNat) := fun h hF => sl_dr (sb1 h hF) (by omega) (by omega)
        have st : ∀ h, Fr h → Sl E8 h ib (b'.part 0 n) (rest.take n.toNat) := fun h hF => by simpa using (sb1 h hF).part (lo := 0) (hi := n) (by omega) (by omega) (by omega)
        have sp1 := sp h1 (hF _ o1)
        have oc : ∀ c, One r h0 (h1.set r c) := fun c => o1.trans ⟨by simp, fun x _ hx => by rw [AH.get_set, if_neg hx]⟩
        have hs1 : r < h1.size := by have := o1.1; omega
        rw [if_neg (by decide)] at hKK
        have hcv : ∀ c, convA Try.T (h1.set r c) 33 9 (b'.part 0 n) = some (.str (rest.take n.toNat), h1.set r c) := fun c => (st _ (hF _ (oc c))).conv rfl rfl rfl
        refine vI ?_; repeat' (first
      | with_reducible first | refine Nx.h ?_ | (refine hK _ _ ?_; clear hK K)
      | ((with_reducible refine q_eo ?_ ?_); exact rfl)
      | ((with_reducible first | refine vO ?_ | (refine Ny.h ?_; intro K hK) | (refine c_drw (by decide +kernel) ?_; intro K hK) | refine c_cond ?_ | show endW _ _ _ _ _ | (refine Nz.h ?_ ?_ <;> intro _) | fail) <;> try simp (disch := first | exact dz | fail) only [go_sem, i_0, i_1, i_2, i_3, i_4, i_5, i_6, i_7, i_8, n_0, n_1, n_2, n_3, n_4, n_5, reduceCtorEq, reduceIte, e0, g1, hcv]))
        exact hKK _ _ ⟨rfl, ⟨_, by rw [AH.get_set, if_pos rfl], sp⟩, oc _⟩
    · rw [if_pos (.inl he)] at hKK
      refine vI ?_; repeat' (first
      | with_reducible first | refine Nx.h ?_ | (refine hK _ _ ?_; clear hK K)
      | ((with_reducible refine q_eo ?_ ?_); exact rfl)
      | ((with_reducible first | refine vO ?_ | (refine Ny.h ?_; intro K hK) | (refine c_drw (by decide +kernel) ?_; intro K hK) | refine c_cond ?_ | show endW _ _ _ _ _ | (refine Nz.h ?_ ?_ <;> intro _) | fail) <;> try simp (disch := first | exact dz | fail) only [go_sem, i_0, i_1, i_2, i_3, i_4, i_5, i_6, i_7, i_8, n_0, n_1, n_2, n_3, n_4, n_5, reduceCtorEq, reduceIte, e0, g1]))
      exact hKK _ _ ⟨rfl, ⟨_, g1, sb1⟩, o1⟩
  · rw [hc] at hKK
    clear hc
    repeat' (first
      | with_reducible first | refine Nx.h ?_ | (refine hK _ _ ?_; clear hK K)
      | ((with_reducible refine q_eo ?_ ?_); exact rfl)
      | ((with_reducible first | (refine Ny.h ?_; intro K hK) | (refine c_drw (by decide +kernel) ?_; intro K hK) | refine c_cond ?_ | show endW _ _ _ _ _ | (refine Nz.h ?_ ?_ <;> intro _) | fail) <;> try simp (disch := first | exact dz | fail) only [go_sem, i_0, i_1, i_2, i_3, i_4, i_5, i_6, i_7, i_8, n_0, n_1, n_2, n_3, n_4, n_5, reduceCtorEq, reduceIte, e0, g]))
    refine callM_of cN ?_
    rintro v h1 ⟨rfl, ⟨b', g1, sb1⟩, o1⟩
    have s1 := sb1 h1 (hF _ o1)
    by_cases he : e = 0
    · exact absurd (n3 he) (by omega)
    · rw [if_pos (.inl he)] at hKK
      refine vI ?_; repeat' (first
      | with_reducible first | refine Nx.h ?_ | (refine hK _ _ ?_; clear hK K)
      | ((with_reducible refine q_eo ?_ ?_); exact rfl)
      | ((with_reducible first | refine vO ?_ | (refine Ny.h ?_; intro K hK) | (refine c_drw (by decide +kernel) ?_; intro K hK) | refine c_cond ?_ | show endW _ _ _ _ _ | (refine Nz.h ?_ ?_ <;> intro _) | fail) <;> try simp (disch := first | exact dz | fail) only [go_sem, i_0, i_1, i_2, i_3, i_4, i_5, i_6, i_7, i_8, n_0, n_1, n_2, n_3, n_4, n_5, reduceCtorEq, reduceIte, e0, g1]))
      exact hKK _ _ ⟨rfl, ⟨_, g1, sb1⟩, o1⟩
end Go.Proofs.Ytmpeofjfagdgkaa
