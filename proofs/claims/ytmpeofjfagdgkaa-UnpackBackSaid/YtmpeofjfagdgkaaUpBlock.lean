/- unpack: a whole block, of the code. -/
import Derived.Test.YtmpeofjfagdgkaaUpField2
set_option linter.unusedSimpArgs false
set_option linter.unusedVariables false
namespace Go.Proofs.Ytmpeofjfagdgkaa
open Go.Abs
open Int renaming reduceEq → i_0, reduceLE → i_1, reduceLT → i_2, reduceNe → i_3, reduceNeg → i_4, reduceAdd → i_5, reduceSub → i_6, reduceMul → i_7, reduceToNat → i_8
open Nat renaming reduceLT → n_0, reduceLeDiff → n_1, reduceEqDiff → n_2, reduceAdd → n_3, reduceSub → n_4, reduceMul → n_5
set_option maxRecDepth 100000
theorem dLoop_nil {most : Int} {s : Rd} (h : s.b = []) : ∀ n, dLoop most n s = (0, s)
  | 0 => rfl
  | n + 1 => by unfold dLoop; rw [h]
theorem dLoop_cons {most : Int} {s : Rd} {c : UInt8} {t : List UInt8} (h : s.b = c :: t) {n : Nat} (hn : s.b.length ≤ n) : dLoop most n s = if (dStep most s c).1 = 0 then dLoop most (n - 1) (dStep most s c).2 else dStep most s c := by
  rw [h] at hn
  cases n with
  | zero => simp at hn
  | succ n =>
    conv => lhs; unfold dLoop
    rw [h]; rfl
/-- An index for the list so far, in a later heap. -/
theorem ow_to {h h3 : AH} {r i1 i2 b0 j : Nat} {o : AV} {l : List Fd} (oo : Ow EF h j o l) (hj : b0 ≤ j) (hjr : ¬ j = r) (hji : ¬ j = i1) (hi2 : i2 = i1 ∨ h.size ≤ i2) (hf : j < h.size → h3.get j = h.get j) (hz : h.size ≤ h3.size) (hb : b0 ≤ h.size) (hr3 : r < h3.size) (hi3 : i2 < h3.size) : ∃ J, Ow EF h3 J o l ∧ b0 ≤ J ∧ ¬ J = r ∧ ¬ J = i2 := by
  by_cases hjs : j < h.size
  · exact ⟨j, oo.frame hf hz, hj, hjr, by omega⟩
  · exact ⟨h3.size, ow_re oo hjs _ _, by omega, by omega, by omega⟩
/-- The block that is being read, in memory. hB is the heap ahead of it. -/
structure Lp (h hB : AH) (r ib d p i : Nat) (most : Int) (s : Rd) (b o : AV) (i' j' : Nat) : Prop where
  g : h.get r = some (.cells [.ptr (some (d, 0)), b, .int .i64 s.u, .bool s.fl, .int .i64 most, .int .i64 s.size, o, .bool s.over])
  o : Ow EF h j' o s.out
  j1 : hB.size ≤ j'
  j2 : ¬ j' = r
  j3 : ¬ j' = i'
  dc : Dc h d p i' s
  i1 : i' = i ∨ hB.size ≤ i'
  i2 : ¬ r = i'
  bt : But3 d p i hB h
  sb : ∀ h, But3 d p i hB h → Sl E8 h ib b s.b
  u : 0 ≤ s.u ∧ s.u ≤ 2
  lb : s.b.length ≤ 100000
  ll : s.l.length + s.b.length ≤ 700000
  lo : s.out.length + s.b.length ≤ 100000
  rs : r < h.size
theorem Lp.one {h h' hB : AH} {r ib d p i : Nat} {most : Int} {s : Rd} {b o : AV} {i' j' : Nat} (l : Lp h hB r ib d p i most s b o i' j') (hrB : hB.size ≤ r) (x : One r h h') : But3 d p i hB h' := by
  have z := l.bt.1
  exact ⟨by have := x.1; omega, fun y hy q1 q2 q3 => (x.2 y (by omega) (by omega)).trans (l.bt.2 y hy q1 q2 q3)⟩
/-- What is left behind a block. -/
structure UpEnd (h' hB : AH) (r ib d p i : Nat) (most : Int) (R : Int × Rd) : Prop where
  bt : But3 d p i hB h'
  gd : ∃ x o, h'.get d = some (.cells [.ptr (some (p, 0)), x, o, .bool false])
  rs : r < h'.size
  lp : R.1 = 0 → ∃ b' o' i' j', Lp h' hB r ib d p i most R.2 b' o' i' j'
theorem dBlk_of {most : Int} {s : Rd} {R : Int × Rd} (h : dLoop most s.b.length s = R) : dBlk most s = if R.1 = 0 ∧ R.2.owed = true then (7, R.2) else R := by unfold dBlk; rw [h]
theorem dStep_A {most : Int} {s : Rd} {c : UInt8} (h : 128 ≤ c.toNat) : dStep most s c = (if (dKnown s).1 = 0 then (0, dTell most { s with b := (dKnown s).2.2 } (dKnown s).2.1) else ((dKnown s).1, s)) := if_pos h
theorem dStep_B {most : Int} {s : Rd} {c : UInt8} (h1 : ¬ 128 ≤ c.toNat) (h : 64 ≤ c.toNat) : dStep most s c = (if (dNamed 6 s).1 = 0 then (0, dTell most { s with b := (dNamed 6 s).2.2, l := addL s.max (dNamed 6 s).2.1.1 (dNamed 6 s).2.1.2.1 s.l } (dNamed 6 s).2.1) else ((dNamed 6 s).1, s)) := by unfold dStep; rw [if_neg h1, if_pos h]
theorem dStep_C {most : Int} {s : Rd} {c : UInt8} (h1 : ¬ 64 ≤ c.toNat) (h : 32 ≤ c.toNat) : dStep most s c = dUpd s := by unfold dStep; rw [if_neg (by omega), if_neg h1, if_pos h]
theorem dStep_D {most : Int} {s : Rd} {c : UInt8} (h : ¬ 32 ≤ c.toNat) : dStep most s c = (if (dNamed 4 s).1 = 0 then (0, dTell most { s with b := (dNamed 4 s).2.2 } ((dNamed 4 s).2.1.1, (dNamed 4 s).2.1.2.1, decide (16 ≤ c.toNat))) else ((dNamed 4 s).1, s)) := by unfold dStep; rw [if_neg (by omega), if_neg (by omega), if_neg h]
theorem dTell_out (most : Int) (s : Rd) (f : Fd) : (dTell most s f).out.length ≤ s.out.length + 1 := by
  unfold dTell; dsimp only; split
  · omega
  · rw [List.length_append]; simp
theorem dUpd_facts (s : Rd) (h : (dUpd s).1 = 0) (hu : 0 ≤ s.u ∧ s.u ≤ 2) : (dUpd s).2.u = s.u + 1 ∧ s.u + 1 ≤ 2 ∧ (dUpd s).2.fl = s.fl ∧ (dUpd s).2.size = s.size ∧ (dUpd s).2.out = s.out ∧ (dUpd s).2.over = s.over ∧ (dUpd s).2.l.length ≤ s.l.length ∧ (dUpd s).2.b.length < s.b.length := by
  unfold dUpd at h ⊢
  have hn := dNum_len 5 s.b
  split at h
  · rename_i h1; exact absurd h h1
  · rename_i h1
    rw [if_neg h1]
    split at h
    · simp at h
    · rename_i h2
      rw [if_neg h2]
      have h3 : ¬ s.u + 1 > 2 := fun h => h2 (.inr (.inl h))
      exact ⟨rfl, by omega, rfl, rfl, rfl, rfl, rsz_len _ _ _, hn.2.2.2.1 (Classical.not_not.1 h1)⟩
set_option maxHeartbeats 16000000 in
theorem ublock (r ib d p i : Nat) (b o : AV) (i0 j0 : Nat) (most : Int) (s : Rd) (h0 hB : AH) (l0 : Lp h0 hB r ib d p i most s b o i0 j0) (hrB : hB.size ≤ r) (hd : d < hB.size) (hp : p < hB.size) :
    callW Try.prog Try.T 51 [.ptr (some (r, 0))] h0 fun v h' => v = .int .i64 (dBlk most s).1 ∧ UpEnd h' hB r ib d p i most (dBlk most s) := by
  refine callW_hide fun KK hKK => ?_
  have hRe : ∃ R, dLoop most s.b.length s = R := ⟨_, rfl⟩
  obtain ⟨R, hR⟩ := hRe
  rw [dBlk_of hR] at hKK
  have bad : ∀ (h' : AH) (e : Int) (sX : Rd), R = (e, sX) → ¬ e = 0 → But3 d p i hB h' → (∃ x o, h'.get d = some (.cells [.ptr (some (p, 0)), x, o, .bool false])) → r < h'.size → KK (.int .i64 e) h' := fun h' e sX h1 h2 h3 h4 h5 => by
    subst h1
    rw [if_neg (fun h => h2 h.1)] at hKK
    exact hKK _ _ ⟨rfl, h3, h4, h5, fun h => absurd h h2⟩
  refine callW_in (n := 83) (rs := [.tmp 2]) (m := 83) Try.func51 rfl rfl rfl rfl fun tr ht => ?_; have e0 := ht 0 _ rfl; clear ht
  repeat' (first
      | with_reducible first | refine Nx.h ?_ | (refine hK _ _ ?_; clear hK K)
      | ((with_reducible refine q_eo ?_ ?_); exact rfl)
      | ((with_reducible first | (refine Ny.h ?_; intro K hK) | (refine c_drw (by decide +kernel) ?_; intro K hK) | refine c_cond ?_ | show endW _ _ _ _ _ | (refine Nz.h ?_ ?_ <;> intro _) | fail) <;> try simp (disch := first | exact dz | fail) only [go_sem, i_0, i_1, i_2, i_3, i_4, i_5, i_6, i_7, i_8, n_0, n_1, n_2, n_3, n_4, n_5, reduceCtorEq, reduceIte, e0]))
  refine c_loopF 2361183241434822606840 (fun m tm h => ∃ (sN : Rd) (n : Nat) (b' o' : AV) (i' j' : Nat), tm.get 3 = .int .i64 0 ∧ Lp h hB r ib d p i most sN b' o' i' j' ∧ dLoop most n sN = R ∧ sN.b.length ≤ n ∧ m = sN.b.length) (s.b.length) (by kernel_rfl) ?_ ?_
  · refine ⟨s, s.b.length, b, o, i0, j0, ?_, l0, hR, Nat.le_refl _, rfl⟩
    (first | with_reducible rfl | (simp (disch := first | exact dz | fail) only [go_sem, i_0, i_1, i_2, i_3, i_4, i_5, i_6, i_7, i_8, n_0, n_1, n_2, n_3, n_4, n_5, reduceCtorEq, reduceIte] <;> first | with_reducible rfl | (congr 1 <;> omega)))
  · clear l0 hR
    rintro m tr2 h1 ho ⟨sN, n, b', o', i', j', t3, lp, hR, hn, rfl⟩
    have k0 := ho 0 (Seen.of rfl); simp (disch := first | exact dz | fail) only [go_sem, i_0, i_1, i_2, i_3, i_4, i_5, i_6, i_7, i_8, n_0, n_1, n_2, n_3, n_4, n_5, reduceCtorEq, reduceIte, e0] at k0
    have g1 := lp.g
    have rs := lp.rs
    have hs1 := lp.sb h1 lp.bt
    have hds := lp.dc.ds
    obtain ⟨a0, hta⟩ := lp.dc.t
    have hps := hta.ps
    have his := hta.is
    have zB := lp.bt.1
    have dp := lp.dc.dp
    have di := lp.dc.di
    have pi : ¬ p = i' := hta.ne
    clear hta
    by_cases hne : 0 < sN.b.length
    · obtain ⟨c, ct, hcons⟩ : ∃ c t, sN.b = c :: t := by
        cases hb : sN.b with
        | nil => rw [hb] at hne; simp at hne
        | cons c t => exact ⟨c, t, rfl⟩
      rw [dLoop_cons hcons hn] at hR
      have hstl := dStep_len most sN c
      have hc0 : sN.b[0]! = c := by rw [hcons]; rfl
      have o1 : ∀ x, One r h1 (h1.push x) := fun x => (One.refl r h1).pushN
      have sp := lp.sb (h1.push (.cells [.str [], .str [], .bool false])) (lp.one hrB (o1 _))
      have gp : ∀ x, (h1.push x).get r = h1.get r := fun x => by rw [AH.get_push, if_neg (by omega)]
      have dcp : ∀ x, Dc (h1.push x) d p i' sN := fun x => lp.dc.frame (fun b hb _ => by rw [AH.get_push, if_neg (by omega)]) (by simp)
      have hrr : ¬ r = d ∧ ¬ r = p ∧ ¬ r = i' := ⟨by omega, by omega, lp.i2⟩
      have hF1 : ∀ x h, One r (h1.push x) h → But3 d p i hB h := fun x h o => lp.one hrB ((o1 x).trans o)
      have hll := lp.ll
      have hlb := lp.lb
      have hlo := lp.lo
      have hcu := c.toNat_lt
      by_cases cA : 128 ≤ c.toNat
      · rw [dStep_A cA] at hR hstl
        repeat' (first
      | with_reducible first | refine Nx.h ?_ | (refine hK _ _ ?_; clear hK K)
      | ((with_reducible refine q_eo ?_ ?_); exact rfl)
      | ((with_reducible first | (refine Ny.h ?_; intro K hK) | (refine c_drw (by decide +kernel) ?_; intro K hK) | refine c_cond ?_ | show endW _ _ _ _ _ | (refine Nz.h ?_ ?_ <;> intro _) | fail) <;> try simp (disch := first | exact dz | fail) only [go_sem, i_0, i_1, i_2, i_3, i_4, i_5, i_6, i_7, i_8, n_0, n_1, n_2, n_3, n_4, n_5, reduceCtorEq, reduceIte, k0, t3, g1, hc0]))
        refine callM_of (uknown r ib d p i' b' (.int .i64 sN.u) (.bool sN.fl) (.int .i64 most) (.int .i64 sN.size) o' (.bool sN.over) sN (But3 d p i hB) _ ((gp _).trans g1) (by simp; omega) (dcp _) hrr lp.sb (hF1 _) hlb (by omega)) ?_
        rcases hk : dKnown sN with ⟨e, ⟨f1, f2, f3⟩, rest⟩
        rw [hk] at hR hstl
        simp only at hR hstl ⊢
        rintro v h2 ⟨rfl, ⟨b2, g2, sb2⟩, o2⟩
        have z2 := o2.1
        rw [AH.size_push] at z2
        have dc2 := (dcp _).one hrr o2
        have b2t := hF1 _ _ o2
        obtain ⟨o2, -, ga2⟩ := o2.push rs
        have gd2 := dc2.g
        by_cases he : e = 0
        · subst he
          rw [if_pos rfl] at hR hstl
          have hlen := (hstl rfl).1
          rw [if_pos rfl] at hR
          have hlen : rest.length < sN.b.length := hlen
          refine vI ?_; repeat' (first
      | with_reducible first | refine Nx.h ?_ | (refine hK _ _ ?_; clear hK K)
      | ((with_reducible refine q_eo ?_ ?_); exact rfl)
      | ((with_reducible first | refine vO ?_ | (refine Ny.h ?_; intro K hK) | (refine c_drw (by decide +kernel) ?_; intro K hK) | refine c_cond ?_ | show endW _ _ _ _ _ | (refine Nz.h ?_ ?_ <;> intro _) | fail) <;> try simp (disch := first | exact dz | fail) only [go_sem, i_0, i_1, i_2, i_3, i_4, i_5, i_6, i_7, i_8, n_0, n_1, n_2, n_3, n_4, n_5, reduceCtorEq, reduceIte, k0, t3, ga2, g2, EFf]))
          refine cM_hide fun h3 hh3 => ?_
          have z3 : h3.size = h2.size := by rw [hh3]; simp
          have g3 : h3.get r = some (.cells [.ptr (some (d, 0)), b2, .int .i64 sN.u, .bool true, .int .i64 most, .int .i64 sN.size, o', .bool sN.over]) := by rw [hh3]; simp (disch := first | exact dz | fail) only [go_sem, i_0, i_1, i_2, i_3, i_4, i_5, i_6, i_7, i_8, n_0, n_1, n_2, n_3, n_4, n_5, reduceCtorEq, reduceIte]
          have f3' : ∀ x, ¬ x = r → ¬ x = h1.size → h3.get x = h2.get x := fun x q1 q2 => by rw [hh3]; simp (disch := first | exact dz | fail) only [go_sem, i_0, i_1, i_2, i_3, i_4, i_5, i_6, i_7, i_8, n_0, n_1, n_2, n_3, n_4, n_5, reduceCtorEq, reduceIte]
          clear hh3
          have f13 : ∀ x, x < h1.size → ¬ x = r → ¬ x = p → ¬ x = i' → h3.get x = h1.get x := fun x hx q1 _ _ => (f3' x q1 (by omega)).trans (o2.2 x hx q1)
          have dcX : Dc h3 d p i' sN := dc2.frame (fun b hb hor => f3' b (by omega) (by omega)) (by omega)
          obtain ⟨i2, hi2e⟩ : ∃ i2, i2 = i' := ⟨_, rfl⟩
          have hi2 : i2 = i' ∨ h1.size ≤ i2 := .inl hi2e
          rw [← hi2e] at dcX
          have dc3 : Dc h3 d p i2 { sN with b := rest } := ⟨dcX.g, dcX.t, dcX.ds, dcX.dp, dcX.di⟩
          have zj3 := dc3.t
          obtain ⟨aX, tX⟩ := zj3
          have his3 := tX.is
          clear tX
          obtain ⟨J, oJ, hJB, hJr, hJi⟩ := ow_to lp.o lp.j1 lp.j2 lp.j3 hi2 (fun hj => f13 j' hj lp.j2 (by have := lp.j1; omega) lp.j3) (by omega) zB (by omega) his3
          refine callM_of (utell r J (.ptr (some (d, 0))) b2 (.int .i64 sN.u) (.bool true) o' most { sN with b := rest } (f1, f2, f3) h3 g3 (by omega) oJ hJr (by show sN.out.length ≤ _; omega)) ?_
          rintro v h4 ⟨o4, j4, g4, ow4, hj4r, hj4, z4, f4⟩
          have hto := dTell_out most { sN with b := rest } (f1, f2, f3)
          have hlo4 : (dTell most { sN with b := rest } (f1, f2, f3)).out.length + (dTell most { sN with b := rest } (f1, f2, f3)).b.length ≤ 100000 := by
            have e1 : (dTell most { sN with b := rest } (f1, f2, f3)).b.length = rest.length := rfl
            have hto' : (dTell most { sN with b := rest } (f1, f2, f3)).out.length ≤ sN.out.length + 1 := hto
            omega
          have dc4 : Dc h4 d p i2 { sN with b := rest } := dc3.frame (fun b hb hor => f4 b hb (by omega) (by omega)) z4
          have lp4 : Lp h4 hB r ib d p i most (dTell most { sN with b := rest } (f1, f2, f3)) b2 o4 i2 j4 := ⟨g4, ow4, by omega, hj4r, by omega, ⟨dc4.g, dc4.t, dc4.ds, dc4.dp, dc4.di⟩, by have := lp.i1; omega, by have := lp.i2; omega, ⟨by omega, fun x hx q1 q2 q3 => (f4 x (by omega) (by omega) (by omega)).trans ((f13 x (by omega) (by omega) q2 (by have := lp.i1; omega)).trans (lp.bt.2 x hx q1 q2 q3))⟩, sb2 rfl, lp.u, by show rest.length ≤ _; omega, by show sN.l.length + rest.length ≤ _; omega, hlo4, by omega⟩
          clear g4 ow4 dc4 dc3 oJ f4 f13 hto
          refine vI ?_; repeat' (first
      | with_reducible first | refine Nx.h ?_ | (refine hK _ _ ?_; clear hK K)
      | ((with_reducible refine q_eo ?_ ?_); exact rfl)
      | ((with_reducible first | refine vO ?_ | (refine Ny.h ?_; intro K hK) | (refine c_drw (by decide +kernel) ?_; intro K hK) | refine c_cond ?_ | show endW _ _ _ _ _ | (refine Nz.h ?_ ?_ <;> intro _) | fail) <;> try simp (disch := first | exact dz | fail) only [go_sem, i_0, i_1, i_2, i_3, i_4, i_5, i_6, i_7, i_8, n_0, n_1, n_2, n_3, n_4, n_5, reduceCtorEq, reduceIte, k0, t3]))
          try dsimp only
          refine ⟨rfl, rest.length, by omega, dTell most { sN with b := rest } (f1, f2, f3), n - 1, b2, o4, i2, j4, ?_, lp4, hR, by show rest.length ≤ _; omega, rfl⟩
          (first | with_reducible rfl | (simp (disch := first | exact dz | fail) only [go_sem, i_0, i_1, i_2, i_3, i_4, i_5, i_6, i_7, i_8, n_0, n_1, n_2, n_3, n_4, n_5, reduceCtorEq, reduceIte, t3] <;> first | with_reducible rfl | (congr 1 <;> omega)))
        · rw [if_neg he] at hR hstl
          rw [if_neg he] at hR
          refine vI ?_; repeat' (first
      | with_reducible first | refine Nx.h ?_ | (refine hK _ _ ?_; clear hK K)
      | ((with_reducible refine q_eo ?_ ?_); exact rfl)
      | ((with_reducible first | refine vO ?_ | (refine Ny.h ?_; intro K hK) | (refine c_drw (by decide +kernel) ?_; intro K hK) | refine c_cond ?_ | show endW _ _ _ _ _ | (refine Nz.h ?_ ?_ <;> intro _) | fail) <;> try simp (disch := first | exact dz | fail) only [go_sem, i_0, i_1, i_2, i_3, i_4, i_5, i_6, i_7, i_8, n_0, n_1, n_2, n_3, n_4, n_5, reduceCtorEq, reduceIte, k0, t3, ga2, g2, EFf]))
          exact bad _ e sN hR.symm he ⟨by simp; have := b2t.1; omega, fun x hx q1 q2 q3 => by (first | rw [AH.get_set, if_neg (by omega), AH.get_set, if_neg (by omega)] | rw [AH.get_set, if_neg (by omega)]); exact b2t.2 x hx q1 q2 q3⟩ ⟨_, _, by (first | rw [AH.get_set, if_neg (by omega), AH.get_set, if_neg (by omega)] | rw [AH.get_set, if_neg (by omega)]); exact gd2⟩ (by simp; omega)
      · by_cases cB : 64 ≤ c.toNat
        · rw [dStep_B cA cB] at hR hstl
          repeat' (first
      | with_reducible first | refine Nx.h ?_ | (refine hK _ _ ?_; clear hK K)
      | ((with_reducible refine q_eo ?_ ?_); exact rfl)
      | ((with_reducible first | (refine Ny.h ?_; intro K hK) | (refine c_drw (by decide +kernel) ?_; intro K hK) | refine c_cond ?_ | show endW _ _ _ _ _ | (refine Nz.h ?_ ?_ <;> intro _) | fail) <;> try simp (disch := first | exact dz | fail) only [go_sem, i_0, i_1, i_2, i_3, i_4, i_5, i_6, i_7, i_8, n_0, n_1, n_2, n_3, n_4, n_5, reduceCtorEq, reduceIte, k0, t3, g1, hc0]))
          refine callM_of (unamed r ib d p i' 6 b' (.int .i64 sN.u) (.bool sN.fl) (.int .i64 most) (.int .i64 sN.size) o' (.bool sN.over) sN (But3 d p i hB) _ ((gp _).trans g1) (by simp; omega) (dcp _) hrr lp.sb (hF1 _) hlb (by omega)) ?_
          rcases hk : dNamed 6 sN with ⟨e, ⟨f1, f2, f3⟩, rest⟩
          rw [hk] at hR hstl
          simp only at hR hstl ⊢
          rintro v h2 ⟨rfl, ⟨b2, g2, sb2⟩, o2⟩
          have z2 := o2.1
          rw [AH.size_push] at z2
          have dc2 := (dcp _).one hrr o2
          have b2t := hF1 _ _ o2
          obtain ⟨o2, -, ga2⟩ := o2.push rs
          have gd2 := dc2.g
          by_cases he : e = 0
          · subst he
            rw [if_pos rfl] at hR hstl
            have hlen := (hstl rfl).1
            rw [if_pos rfl] at hR
            have hlen : rest.length < sN.b.length := hlen
            refine vI ?_; repeat' (first
      | with_reducible first | refine Nx.h ?_ | (refine hK _ _ ?_; clear hK K)
      | ((with_reducible refine q_eo ?_ ?_); exact rfl)
      | ((with_reducible first | refine vO ?_ | (refine Ny.h ?_; intro K hK) | (refine c_drw (by decide +kernel) ?_; intro K hK) | refine c_cond ?_ | show endW _ _ _ _ _ | (refine Nz.h ?_ ?_ <;> intro _) | fail) <;> try simp (disch := first | exact dz | fail) only [go_sem, i_0, i_1, i_2, i_3, i_4, i_5, i_6, i_7, i_8, n_0, n_1, n_2, n_3, n_4, n_5, reduceCtorEq, reduceIte, k0, t3, ga2, g2, gd2, EFf]))
            refine cM_hide fun h2a hh2 => ?_
            have z2a : h2a.size = h2.size := by rw [hh2]; simp
            have f2a : ∀ x, ¬ x = h1.size → h2a.get x = h2.get x := fun x q1 => by rw [hh2]; simp (disch := first | exact dz | fail) only [go_sem, i_0, i_1, i_2, i_3, i_4, i_5, i_6, i_7, i_8, n_0, n_1, n_2, n_3, n_4, n_5, reduceCtorEq, reduceIte]
            have ga2a : h2a.get h1.size = some (.cells [.str f1, .str f2, .bool f3]) := by rw [hh2]; simp (disch := first | exact dz | fail) only [go_sem, i_0, i_1, i_2, i_3, i_4, i_5, i_6, i_7, i_8, n_0, n_1, n_2, n_3, n_4, n_5, reduceCtorEq, reduceIte]
            clear hh2
            obtain ⟨a2, ta2⟩ := dc2.t
            refine callM_of (tAdd p i' sN.l sN.max f1 f2 a2 h2a (ta2.frame (f2a p (by omega)) (f2a i' (by omega)) (by omega)) (by omega)) ?_
            rintro v h2b ⟨bt2, a2b, i2, t2b, hi2b⟩
            clear ta2
            have z2b := bt2.1
            have f2b : ∀ x, x < h2.size → ¬ x = p → ¬ x = i' → ¬ x = h1.size → h2b.get x = h2.get x := fun x hx q1 q2 q3 => (bt2.2 x (by omega) q1 q2).trans (f2a x q3)
            have ga2b := (bt2.2 h1.size (by omega) (by omega) (by omega)).trans ga2a
            have g2b := (f2b r (by omega) (by omega) lp.i2 (by omega)).trans g2
            have gd2b := (f2b d (by omega) dp di (by omega)).trans gd2
            clear bt2
            refine vI ?_; repeat' (first
      | with_reducible first | refine Nx.h ?_ | (refine hK _ _ ?_; clear hK K)
      | ((with_reducible refine q_eo ?_ ?_); exact rfl)
      | ((with_reducible first | refine vO ?_ | (refine Ny.h ?_; intro K hK) | (refine c_drw (by decide +kernel) ?_; intro K hK) | refine c_cond ?_ | show endW _ _ _ _ _ | (refine Nz.h ?_ ?_ <;> intro _) | fail) <;> try simp (disch := first | exact dz | fail) only [go_sem, i_0, i_1, i_2, i_3, i_4, i_5, i_6, i_7, i_8, n_0, n_1, n_2, n_3, n_4, n_5, reduceCtorEq, reduceIte, k0, t3, ga2b, g2b, EFf]))
            refine cM_hide fun h3 hh3 => ?_
            have z3 : h3.size = h2b.size := by rw [hh3]; simp
            have g3 : h3.get r = some (.cells [.ptr (some (d, 0)), b2, .int .i64 sN.u, .bool true, .int .i64 most, .int .i64 sN.size, o', .bool sN.over]) := by rw [hh3]; simp (disch := first | exact dz | fail) only [go_sem, i_0, i_1, i_2, i_3, i_4, i_5, i_6, i_7, i_8, n_0, n_1, n_2, n_3, n_4, n_5, reduceCtorEq, reduceIte]
            have f3' : ∀ x, ¬ x = r → h3.get x = h2b.get x := fun x q1 => by rw [hh3]; simp (disch := first | exact dz | fail) only [go_sem, i_0, i_1, i_2, i_3, i_4, i_5, i_6, i_7, i_8, n_0, n_1, n_2, n_3, n_4, n_5, reduceCtorEq, reduceIte]
            clear hh3
            have f13 : ∀ x, x < h1.size → ¬ x = r → ¬ x = p → ¬ x = i' → h3.get x = h1.get x := fun x hx q1 q2 q3 => (f3' x q1).trans ((f2b x (by omega) q2 q3 (by omega)).trans (o2.2 x hx q1))
            have hi2 : i2 = i' ∨ h1.size ≤ i2 := by omega
            have hri2 : ¬ i2 = r := by have := lp.i2; omega
            have dc3 : Dc h3 d p i2 { sN with b := rest, l := addL sN.max f1 f2 sN.l } := ⟨(f3' d (by omega)).trans gd2b, ⟨a2b, t2b.frame (f3' p (by omega)) (f3' i2 hri2) (by omega)⟩, by omega, dp, by omega⟩
            have hal := addL_len (M := sN.max) (x := f1) (y := f2) (l := sN.l)
            have zj3 := dc3.t
            obtain ⟨aX, tX⟩ := zj3
            have his3 := tX.is
            clear tX
            obtain ⟨J, oJ, hJB, hJr, hJi⟩ := ow_to lp.o lp.j1 lp.j2 lp.j3 hi2 (fun hj => f13 j' hj lp.j2 (by have := lp.j1; omega) lp.j3) (by omega) zB (by omega) his3
            refine callM_of (utell r J (.ptr (some (d, 0))) b2 (.int .i64 sN.u) (.bool true) o' most { sN with b := rest, l := addL sN.max f1 f2 sN.l } (f1, f2, f3) h3 g3 (by omega) oJ hJr (by show sN.out.length ≤ _; omega)) ?_
            rintro v h4 ⟨o4, j4, g4, ow4, hj4r, hj4, z4, f4⟩
            have hto := dTell_out most { sN with b := rest, l := addL sN.max f1 f2 sN.l } (f1, f2, f3)
            have hlo4 : (dTell most { sN with b := rest, l := addL sN.max f1 f2 sN.l } (f1, f2, f3)).out.length + (dTell most { sN with b := rest, l := addL sN.max f1 f2 sN.l } (f1, f2, f3)).b.length ≤ 100000 := by
              have e1 : (dTell most { sN with b := rest, l := addL sN.max f1 f2 sN.l } (f1, f2, f3)).b.length = rest.length := rfl
              have hto' : (dTell most { sN with b := rest, l := addL sN.max f1 f2 sN.l } (f1, f2, f3)).out.length ≤ sN.out.length + 1 := hto
              omega
            have dc4 : Dc h4 d p i2 { sN with b := rest, l := addL sN.max f1 f2 sN.l } := dc3.frame (fun b hb hor => f4 b hb (by omega) (by omega)) z4
            have lp4 : Lp h4 hB r ib d p i most (dTell most { sN with b := rest, l := addL sN.max f1 f2 sN.l } (f1, f2, f3)) b2 o4 i2 j4 := ⟨g4, ow4, by omega, hj4r, by omega, ⟨dc4.g, dc4.t, dc4.ds, dc4.dp, dc4.di⟩, by have := lp.i1; omega, by have := lp.i2; omega, ⟨by omega, fun x hx q1 q2 q3 => (f4 x (by omega) (by omega) (by omega)).trans ((f13 x (by omega) (by omega) q2 (by have := lp.i1; omega)).trans (lp.bt.2 x hx q1 q2 q3))⟩, sb2 rfl, lp.u, by show rest.length ≤ _; omega, by show (addL sN.max f1 f2 sN.l).length + rest.length ≤ _; omega, hlo4, by omega⟩
            clear g4 ow4 dc4 dc3 oJ f4 f13 hto
            refine vI ?_; repeat' (first
      | with_reducible first | refine Nx.h ?_ | (refine hK _ _ ?_; clear hK K)
      | ((with_reducible refine q_eo ?_ ?_); exact rfl)
      | ((with_reducible first | refine vO ?_ | (refine Ny.h ?_; intro K hK) | (refine c_drw (by decide +kernel) ?_; intro K hK) | refine c_cond ?_ | show endW _ _ _ _ _ | (refine Nz.h ?_ ?_ <;> intro _) | fail) <;> try simp (disch := first | exact dz | fail) only [go_sem, i_0, i_1, i_2, i_3, i_4, i_5, i_6, i_7, i_8, n_0, n_1, n_2, n_3, n_4, n_5, reduceCtorEq, reduceIte, k0, t3]))
            try dsimp only
            refine ⟨rfl, rest.length, by omega, dTell most { sN with b := rest, l := addL sN.max f1 f2 sN.l } (f1, f2, f3), n - 1, b2, o4, i2, j4, ?_, lp4, hR, by show rest.length ≤ _; omega, rfl⟩
            (first | with_reducible rfl | (simp (disch := first | exact dz | fail) only [go_sem, i_0, i_1, i_2, i_3, i_4, i_5, i_6, i_7, i_8, n_0, n_1, n_2, n_3, n_4, n_5, reduceCtorEq, reduceIte, t3] <;> first | with_reducible rfl | (congr 1 <;> omega)))
          · rw [if_neg he] at hR hstl
            rw [if_neg he] at hR
            refine vI ?_; repeat' (first
      | with_reducible first | refine Nx.h ?_ | (refine hK _ _ ?_; clear hK K)
      | ((with_reducible refine q_eo ?_ ?_); exact rfl)
      | ((with_reducible first | refine vO ?_ | (refine Ny.h ?_; intro K hK) | (refine c_drw (by decide +kernel) ?_; intro K hK) | refine c_cond ?_ | show endW _ _ _ _ _ | (refine Nz.h ?_ ?_ <;> intro _) | fail) <;> try simp (disch := first | exact dz | fail) only [go_sem, i_0, i_1, i_2, i_3, i_4, i_5, i_6, i_7, i_8, n_0, n_1, n_2, n_3, n_4, n_5, reduceCtorEq, reduceIte, k0, t3, ga2, g2, EFf]))
            exact bad _ e sN hR.symm he ⟨by simp; have := b2t.1; omega, fun x hx q1 q2 q3 => by (first | rw [AH.get_set, if_neg (by omega), AH.get_set, if_neg (by omega)] | rw [AH.get_set, if_neg (by omega)]); exact b2t.2 x hx q1 q2 q3⟩ ⟨_, _, by (first | rw [AH.get_set, if_neg (by omega), AH.get_set, if_neg (by omega)] | rw [AH.get_set, if_neg (by omega)]); exact gd2⟩ (by simp; omega)
        · by_cases cC : 32 ≤ c.toNat
          · rw [dStep_C cB cC] at hR hstl
            repeat' (first
      | with_reducible first | refine Nx.h ?_ | (refine hK _ _ ?_; clear hK K)
      | ((with_reducible refine q_eo ?_ ?_); exact rfl)
      | ((with_reducible first | (refine Ny.h ?_; intro K hK) | (refine c_drw (by decide +kernel) ?_; intro K hK) | refine c_cond ?_ | show endW _ _ _ _ _ | (refine Nz.h ?_ ?_ <;> intro _) | fail) <;> try simp (disch := first | exact dz | fail) only [go_sem, i_0, i_1, i_2, i_3, i_4, i_5, i_6, i_7, i_8, n_0, n_1, n_2, n_3, n_4, n_5, reduceCtorEq, reduceIte, k0, t3, g1, hc0]))
            refine callM_of (uupdate r ib d p i' b' (.int .i64 most) (.int .i64 sN.size) o' (.bool sN.over) sN (But3 d p i hB) _ ((gp _).trans g1) (by simp; omega) (dcp _) hrr lp.sb (hF1 _) hlb (by omega) lp.u) ?_
            have hfa := dUpd_facts sN
            rcases hU : dUpd sN with ⟨e, s2⟩
            rw [hU] at hR hstl hfa
            simp only at hR hstl hfa ⊢
            rintro v h2 ⟨rfl, ⟨b2, u2, g2, ⟨ow2, gd2⟩, hok⟩, z2, f2⟩
            rw [AH.size_push] at z2
            have f12 : ∀ x, x < h1.size → ¬ x = r → ¬ x = d → ¬ x = p → ¬ x = i' → h2.get x = h1.get x := fun x hx q1 q2 q3 q4 => (f2 x (by rw [AH.size_push]; omega) q1 q2 q3 q4).trans (by rw [AH.get_push, if_neg (by omega)])
            clear f2
            have bt2 : But3 d p i hB h2 := ⟨by omega, fun x hx q1 q2 q3 => (f12 x (by omega) (by omega) q1 q2 (by have := lp.i1; omega)).trans (lp.bt.2 x hx q1 q2 q3)⟩
            by_cases he : e = 0
            · subst he
              rw [if_pos rfl] at hR
              obtain ⟨q1, q2, q3, q4, q5, q6, q7, q8⟩ := hfa rfl lp.u
              obtain ⟨rfl, dc2, sb2⟩ := hok rfl
              obtain ⟨J, oJ, hJB, hJr, hJi⟩ := ow_to lp.o lp.j1 lp.j2 lp.j3 (i2 := i') (.inl rfl) (fun hj => f12 j' hj lp.j2 (by have := lp.j1; omega) (by have := lp.j1; omega) lp.j3) (by omega) zB (by omega) (by omega)
              have hu := lp.u
              have lp2 : Lp h2 hB r ib d p i most s2 b2 o' i' J := ⟨by rw [q3, q4, q6]; exact g2, by rw [q5]; exact oJ, hJB, hJr, hJi, dc2, lp.i1, lp.i2, bt2, sb2, by rw [q1]; omega, by omega, by omega, by rw [q5]; omega, by omega⟩
              clear g2 dc2 oJ
              refine vI ?_; repeat' (first
      | with_reducible first | refine Nx.h ?_ | (refine hK _ _ ?_; clear hK K)
      | ((with_reducible refine q_eo ?_ ?_); exact rfl)
      | ((with_reducible first | refine vO ?_ | (refine Ny.h ?_; intro K hK) | (refine c_drw (by decide +kernel) ?_; intro K hK) | refine c_cond ?_ | show endW _ _ _ _ _ | (refine Nz.h ?_ ?_ <;> intro _) | fail) <;> try simp (disch := first | exact dz | fail) only [go_sem, i_0, i_1, i_2, i_3, i_4, i_5, i_6, i_7, i_8, n_0, n_1, n_2, n_3, n_4, n_5, reduceCtorEq, reduceIte, k0, t3]))
              try dsimp only
              refine ⟨rfl, s2.b.length, by omega, s2, n - 1, b2, o', i', J, ?_, lp2, hR, by omega, rfl⟩
              (first | with_reducible rfl | (simp (disch := first | exact dz | fail) only [go_sem, i_0, i_1, i_2, i_3, i_4, i_5, i_6, i_7, i_8, n_0, n_1, n_2, n_3, n_4, n_5, reduceCtorEq, reduceIte, t3] <;> first | with_reducible rfl | (congr 1 <;> omega)))
            · rw [if_neg he] at hR
              refine vI ?_; repeat' (first
      | with_reducible first | refine Nx.h ?_ | (refine hK _ _ ?_; clear hK K)
      | ((with_reducible refine q_eo ?_ ?_); exact rfl)
      | ((with_reducible first | refine vO ?_ | (refine Ny.h ?_; intro K hK) | (refine c_drw (by decide +kernel) ?_; intro K hK) | refine c_cond ?_ | show endW _ _ _ _ _ | (refine Nz.h ?_ ?_ <;> intro _) | fail) <;> try simp (disch := first | exact dz | fail) only [go_sem, i_0, i_1, i_2, i_3, i_4, i_5, i_6, i_7, i_8, n_0, n_1, n_2, n_3, n_4, n_5, reduceCtorEq, reduceIte, k0, t3]))
              exact bad _ e s2 hR.symm he bt2 ⟨_, _, gd2⟩ (by omega)
          · rw [dStep_D cC] at hR hstl
            repeat' (first
      | with_reducible first | refine Nx.h ?_ | (refine hK _ _ ?_; clear hK K)
      | ((with_reducible refine q_eo ?_ ?_); exact rfl)
      | ((with_reducible first | (refine Ny.h ?_; intro K hK) | (refine c_drw (by decide +kernel) ?_; intro K hK) | refine c_cond ?_ | show endW _ _ _ _ _ | (refine Nz.h ?_ ?_ <;> intro _) | fail) <;> try simp (disch := first | exact dz | fail) only [go_sem, i_0, i_1, i_2, i_3, i_4, i_5, i_6, i_7, i_8, n_0, n_1, n_2, n_3, n_4, n_5, reduceCtorEq, reduceIte, k0, t3, g1, hc0]))
            refine callM_of (unamed r ib d p i' 4 b' (.int .i64 sN.u) (.bool sN.fl) (.int .i64 most) (.int .i64 sN.size) o' (.bool sN.over) sN (But3 d p i hB) _ ((gp _).trans g1) (by simp; omega) (dcp _) hrr lp.sb (hF1 _) hlb (by omega)) ?_
            rcases hk : dNamed 4 sN with ⟨e, ⟨f1, f2, f3⟩, rest⟩
            rw [hk] at hR hstl
            simp only at hR hstl ⊢
            rintro v h2 ⟨rfl, ⟨b2, g2, sb2⟩, o2⟩
            have z2 := o2.1
            rw [AH.size_push] at z2
            have dc2 := (dcp _).one hrr o2
            have b2t := hF1 _ _ o2
            obtain ⟨o2, -, ga2⟩ := o2.push rs
            have gd2 := dc2.g
            by_cases he : e = 0
            · subst he
              rw [if_pos rfl] at hR hstl
              have hlen := (hstl rfl).1
              rw [if_pos rfl] at hR
              have hlen : rest.length < sN.b.length := hlen
              have h16 : decide ((c.toNat : Int) ≥ 16) = decide (16 ≤ c.toNat) := by
                by_cases h : 16 ≤ c.toNat
                · rw [decide_eq_true h, decide_eq_true (by omega)]
                · rw [decide_eq_false h, decide_eq_false (by omega)]
              refine vI ?_; repeat' (first
      | with_reducible first | refine Nx.h ?_ | (refine hK _ _ ?_; clear hK K)
      | ((with_reducible refine q_eo ?_ ?_); exact rfl)
      | ((with_reducible first | refine vO ?_ | (refine Ny.h ?_; intro K hK) | (refine c_drw (by decide +kernel) ?_; intro K hK) | refine c_cond ?_ | show endW _ _ _ _ _ | (refine Nz.h ?_ ?_ <;> intro _) | fail) <;> try simp (disch := first | exact dz | fail) only [go_sem, i_0, i_1, i_2, i_3, i_4, i_5, i_6, i_7, i_8, n_0, n_1, n_2, n_3, n_4, n_5, reduceCtorEq, reduceIte, k0, t3, ga2, g2, EFf, h16]))
              refine cM_hide fun h3 hh3 => ?_
              have z3 : h3.size = h2.size := by rw [hh3]; simp
              have g3 : h3.get r = some (.cells [.ptr (some (d, 0)), b2, .int .i64 sN.u, .bool true, .int .i64 most, .int .i64 sN.size, o', .bool sN.over]) := by rw [hh3]; simp (disch := first | exact dz | fail) only [go_sem, i_0, i_1, i_2, i_3, i_4, i_5, i_6, i_7, i_8, n_0, n_1, n_2, n_3, n_4, n_5, reduceCtorEq, reduceIte]
              have f3' : ∀ x, ¬ x = r → ¬ x = h1.size → h3.get x = h2.get x := fun x q1 q2 => by rw [hh3]; simp (disch := first | exact dz | fail) only [go_sem, i_0, i_1, i_2, i_3, i_4, i_5, i_6, i_7, i_8, n_0, n_1, n_2, n_3, n_4, n_5, reduceCtorEq, reduceIte]
              clear hh3
              have f13 : ∀ x, x < h1.size → ¬ x = r → ¬ x = p → ¬ x = i' → h3.get x = h1.get x := fun x hx q1 _ _ => (f3' x q1 (by omega)).trans (o2.2 x hx q1)
              have dcX : Dc h3 d p i' sN := dc2.frame (fun b hb hor => f3' b (by omega) (by omega)) (by omega)
              obtain ⟨i2, hi2e⟩ : ∃ i2, i2 = i' := ⟨_, rfl⟩
              have hi2 : i2 = i' ∨ h1.size ≤ i2 := .inl hi2e
              rw [← hi2e] at dcX
              have dc3 : Dc h3 d p i2 { sN with b := rest } := ⟨dcX.g, dcX.t, dcX.ds, dcX.dp, dcX.di⟩
              have zj3 := dc3.t
              obtain ⟨aX, tX⟩ := zj3
              have his3 := tX.is
              clear tX
              obtain ⟨J, oJ, hJB, hJr, hJi⟩ := ow_to lp.o lp.j1 lp.j2 lp.j3 hi2 (fun hj => f13 j' hj lp.j2 (by have := lp.j1; omega) lp.j3) (by omega) zB (by omega) his3
              refine callM_of (utell r J (.ptr (some (d, 0))) b2 (.int .i64 sN.u) (.bool true) o' most { sN with b := rest } (f1, f2, decide (16 ≤ c.toNat)) h3 g3 (by omega) oJ hJr (by show sN.out.length ≤ _; omega)) ?_
              rintro v h4 ⟨o4, j4, g4, ow4, hj4r, hj4, z4, f4⟩
              have hto := dTell_out most { sN with b := rest } (f1, f2, decide (16 ≤ c.toNat))
              have hlo4 : (dTell most { sN with b := rest } (f1, f2, decide (16 ≤ c.toNat))).out.length + (dTell most { sN with b := rest } (f1, f2, decide (16 ≤ c.toNat))).b.length ≤ 100000 := by
                have e1 : (dTell most { sN with b := rest } (f1, f2, decide (16 ≤ c.toNat))).b.length = rest.length := rfl
                have hto' : (dTell most { sN with b := rest } (f1, f2, decide (16 ≤ c.toNat))).out.length ≤ sN.out.length + 1 := hto
                omega
              have dc4 : Dc h4 d p i2 { sN with b := rest } := dc3.frame (fun b hb hor => f4 b hb (by omega) (by omega)) z4
              have lp4 : Lp h4 hB r ib d p i most (dTell most { sN with b := rest } (f1, f2, decide (16 ≤ c.toNat))) b2 o4 i2 j4 := ⟨g4, ow4, by omega, hj4r, by omega, ⟨dc4.g, dc4.t, dc4.ds, dc4.dp, dc4.di⟩, by have := lp.i1; omega, by have := lp.i2; omega, ⟨by omega, fun x hx q1 q2 q3 => (f4 x (by omega) (by omega) (by omega)).trans ((f13 x (by omega) (by omega) q2 (by have := lp.i1; omega)).trans (lp.bt.2 x hx q1 q2 q3))⟩, sb2 rfl, lp.u, by show rest.length ≤ _; omega, by show sN.l.length + rest.length ≤ _; omega, hlo4, by omega⟩
              clear g4 ow4 dc4 dc3 oJ f4 f13 hto
              refine vI ?_; repeat' (first
      | with_reducible first | refine Nx.h ?_ | (refine hK _ _ ?_; clear hK K)
      | ((with_reducible refine q_eo ?_ ?_); exact rfl)
      | ((with_reducible first | refine vO ?_ | (refine Ny.h ?_; intro K hK) | (refine c_drw (by decide +kernel) ?_; intro K hK) | refine c_cond ?_ | show endW _ _ _ _ _ | (refine Nz.h ?_ ?_ <;> intro _) | fail) <;> try simp (disch := first | exact dz | fail) only [go_sem, i_0, i_1, i_2, i_3, i_4, i_5, i_6, i_7, i_8, n_0, n_1, n_2, n_3, n_4, n_5, reduceCtorEq, reduceIte, k0, t3]))
              try dsimp only
              refine ⟨rfl, rest.length, by omega, dTell most { sN with b := rest } (f1, f2, decide (16 ≤ c.toNat)), n - 1, b2, o4, i2, j4, ?_, lp4, hR, by show rest.length ≤ _; omega, rfl⟩
              (first | with_reducible rfl | (simp (disch := first | exact dz | fail) only [go_sem, i_0, i_1, i_2, i_3, i_4, i_5, i_6, i_7, i_8, n_0, n_1, n_2, n_3, n_4, n_5, reduceCtorEq, reduceIte, t3] <;> first | with_reducible rfl | (congr 1 <;> omega)))
            · rw [if_neg he] at hR hstl
              rw [if_neg he] at hR
              refine vI ?_; repeat' (first
      | with_reducible first | refine Nx.h ?_ | (refine hK _ _ ?_; clear hK K)
      | ((with_reducible refine q_eo ?_ ?_); exact rfl)
      | ((with_reducible first | refine vO ?_ | (refine Ny.h ?_; intro K hK) | (refine c_drw (by decide +kernel) ?_; intro K hK) | refine c_cond ?_ | show endW _ _ _ _ _ | (refine Nz.h ?_ ?_ <;> intro _) | fail) <;> try simp (disch := first | exact dz | fail) only [go_sem, i_0, i_1, i_2, i_3, i_4, i_5, i_6, i_7, i_8, n_0, n_1, n_2, n_3, n_4, n_5, reduceCtorEq, reduceIte, k0, t3, ga2, g2, EFf]))
              exact bad _ e sN hR.symm he ⟨by simp; have := b2t.1; omega, fun x hx q1 q2 q3 => by (first | rw [AH.get_set, if_neg (by omega), AH.get_set, if_neg (by omega)] | rw [AH.get_set, if_neg (by omega)]); exact b2t.2 x hx q1 q2 q3⟩ ⟨_, _, by (first | rw [AH.get_set, if_neg (by omega), AH.get_set, if_neg (by omega)] | rw [AH.get_set, if_neg (by omega)]); exact gd2⟩ (by simp; omega)
    · have hnil : sN.b = [] := List.length_eq_zero_iff.1 (by omega)
      rw [dLoop_nil hnil] at hR
      subst hR
      have gd := lp.dc.g
      cases hw : sN.owed with
      | true =>
        rw [hw] at gd
        rw [if_pos ⟨rfl, hw⟩] at hKK
        repeat' (first
      | with_reducible first | refine Nx.h ?_ | (refine hK _ _ ?_; clear hK K)
      | ((with_reducible refine q_eo ?_ ?_); exact rfl)
      | ((with_reducible first | (refine Ny.h ?_; intro K hK) | (refine c_drw (by decide +kernel) ?_; intro K hK) | refine c_cond ?_ | show endW _ _ _ _ _ | (refine Nz.h ?_ ?_ <;> intro _) | fail) <;> try simp (disch := first | exact dz | fail) only [go_sem, i_0, i_1, i_2, i_3, i_4, i_5, i_6, i_7, i_8, n_0, n_1, n_2, n_3, n_4, n_5, reduceCtorEq, reduceIte, k0, t3, g1, gd]))
        exact hKK _ _ ⟨rfl, lp.bt, ⟨_, _, gd⟩, rs, fun h => by simp at h⟩
      | false =>
        rw [hw] at gd
        rw [if_neg (by rw [hw]; simp)] at hKK
        repeat' (first
      | with_reducible first | refine Nx.h ?_ | (refine hK _ _ ?_; clear hK K)
      | ((with_reducible refine q_eo ?_ ?_); exact rfl)
      | ((with_reducible first | (refine Ny.h ?_; intro K hK) | (refine c_drw (by decide +kernel) ?_; intro K hK) | refine c_cond ?_ | show endW _ _ _ _ _ | (refine Nz.h ?_ ?_ <;> intro _) | fail) <;> try simp (disch := first | exact dz | fail) only [go_sem, i_0, i_1, i_2, i_3, i_4, i_5, i_6, i_7, i_8, n_0, n_1, n_2, n_3, n_4, n_5, reduceCtorEq, reduceIte, k0, t3, g1, gd]))
        exact hKK _ _ ⟨rfl, lp.bt, ⟨_, _, gd⟩, rs, fun _ => ⟨_, _, _, _, lp⟩⟩
end Go.Proofs.Ytmpeofjfagdgkaa
