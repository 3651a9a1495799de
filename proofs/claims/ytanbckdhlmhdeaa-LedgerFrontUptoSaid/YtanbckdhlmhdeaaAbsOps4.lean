/- Each operation of the abstract machine is the model's. Fourth part: append, copy, clear. -/
import Derived.Test.YtanbckdhlmhdeaaAbsOps3
set_option linter.unusedSimpArgs false
set_option linter.unusedVariables false
namespace Go.Abs
open Go.RowKit
section ops
variable {P : Program} {T : Tys} {w0 w : World} {ρ : Rho} {h h' : AH}

/-- **A BLOCK THAT THE ABSTRACT MACHINE COPIES, AND THE MODEL WRITES ON**: its cells lie under a new number from now on; the elder number is dead. -/
theorem WR.move (H : WR w0 ρ h w) {i : Nat} {cs cs2 : List AV} (hi : h.get i = some (.cells cs)) {p : Pl} (hp : ρ i = some p) {s2 : Nat} {c2 : Array Value} {T : TypeId} {fz : Nat × Nat} (hR : c2.size = p.R) (hf : noFreeze fz p.R)
    (hs : s2 + cs2.length ≤ p.R) (hv : VRs w0 ρ cs2 ((c2.toList.drop s2).take cs2.length)) (h1 : cs2.all AV.one = true) :
    WR w0 (ρ.add h.size ⟨p.r, s2, p.R⟩) ((h.set i .dead).push (.cells cs2)) (w.putObj p.r (.cells c2 T fz)) ∧ Ext ρ (ρ.add h.size ⟨p.r, s2, p.R⟩) := by
  have hx : Ext ρ (ρ.add h.size ⟨p.r, s2, p.R⟩) := Rho.ext_add (H.fresh _ (Nat.le_refl _)).1
  have hilt := H.lt hi
  obtain ⟨hlt, hB⟩ := (hp ▸ H.obj i _ hi).lt rfl
  refine ⟨⟨H.below.trans ((putObj_below _).mono hB), ?_, ?_, ?_⟩, hx⟩
  · intro j hj
    simp at hj
    have := H.fresh j (by omega)
    rw [AH.get_push, if_neg (by simp; omega), AH.get_set, if_neg (by omega)]
    exact ⟨by unfold Rho.add; rw [if_neg (by omega)]; exact this.1, this.2⟩
  · intro j o hj
    rw [AH.get_push] at hj
    split at hj
    · rename_i e
      simp at e
      cases hj
      subst e
      rw [Rho.add_same]
      exact .cells _ ⟨p.r, s2, p.R⟩ hB _ T fz (World.putObj_heap_same hlt) hR hs hf (hv.ext hx) h1
    · rename_i e
      simp at e
      have e2 : ρ.add h.size ⟨p.r, s2, p.R⟩ j = ρ j := by unfold Rho.add; rw [if_neg e]
      rw [e2]
      rw [AH.get_set] at hj
      split at hj
      · cases hj; exact .dead _
      · rename_i e3
        refine ((H.obj j o hj).ext hx).world fun q hq hl => World.putObj_heap_other fun er => e3 (H.inj j i _ _ q p hj hi hl rfl hq hp er)
  · have key : ∀ j o q, (h.set i .dead).get j = some o → o.live = true → j ≠ h.size → ρ.add h.size ⟨p.r, s2, p.R⟩ j = some q → h.get j = some o ∧ ρ j = some q ∧ q.r ≠ p.r := by
      intro j o q hj hl hne hq
      unfold Rho.add at hq
      rw [if_neg hne] at hq
      rw [AH.get_set] at hj
      split at hj
      · cases hj; simp [AO.live] at hl
      · rename_i e3
        exact ⟨hj, hq, fun er => e3 (H.inj j i _ _ q p hj hi hl rfl hq hp er)⟩
    intro j k o1 o2 q1 q2 hj hk l1 l2 hq1 hq2 e
    rw [AH.get_push] at hj hk
    by_cases e1 : j = h.size <;> by_cases e2 : k = h.size
    · omega
    · rw [if_neg (show ¬ k = (h.set i AO.dead).size from e2)] at hk
      have := key k o2 q2 hk l2 e2 hq2
      rw [e1, Rho.add_same] at hq1
      cases hq1
      exact absurd e.symm this.2.2
    · rw [if_neg (show ¬ j = (h.set i AO.dead).size from e1)] at hj
      have := key j o1 q1 hj l1 e1 hq1
      rw [e2, Rho.add_same] at hq2
      cases hq2
      exact absurd e this.2.2
    · rw [if_neg (show ¬ j = (h.set i AO.dead).size from e1)] at hj
      rw [if_neg (show ¬ k = (h.set i AO.dead).size from e2)] at hk
      have a := key j o1 q1 hj l1 e1 hq1
      have b := key k o2 q2 hk l2 e2 hq2
      exact H.inj j k o1 o2 q1 q2 a.1 b.1 l1 l2 a.2.1 b.2.1 e

theorem zeroCells_size (zero : Array Value) (n : Nat) : (Builtin.zeroCells zero n).size = n * zero.size := by simp [Builtin.zeroCells]

/-- append, as the model carries it out where there is room. -/
theorem run_append_fits {t xt ty e : TypeId} {base : Option Addr} {len cap n : Nat} {v : Value} {new : List Value} {i : TypeInfo} (ht : P.underlying t = some (.slice e)) (hxt : (∃ e', P.underlying xt = some (.slice e')) ∨ P.underlying xt = some .string)
    (hi : P.info? e = some i) (hl : (Builtin.lenOf v).run P w = .ok n w) (hn : (Builtin.firstCells i.size n v).run P w = .ok new.toArray w) (hfit : len + n ≤ cap) {w' : World}
    (hst : ∀ a, base = some a → (storeCells (a.add (len * i.size)) new).run P w = .ok () w') (hno : base = none → w' = w) :
    (Builtin.append_ #[t, xt] ty #[.slice base len cap, v]).run P w = .ok (.slice base (len + n) cap) w' := by
  rcases hxt with ⟨e', hxt⟩ | hxt <;> cases base with
  | none =>
    rw [hno rfl]
    simp [Builtin.append_, run_und ht, run_und hxt, run_size hi, hl, hn, hfit]
  | some a =>
    have := hst a rfl
    simp [Builtin.append_, run_und ht, run_und hxt, run_size hi, hl, hn, hfit, this]
/-- append, as the model carries it out where a new array is made. -/
theorem run_append_grow {t xt ty e : TypeId} {base : Option Addr} {len cap n : Nat} {v : Value} {old new : List Value} {i : TypeInfo} {z : Value} (ht : P.underlying t = some (.slice e))
    (hxt : (∃ e', P.underlying xt = some (.slice e')) ∨ P.underlying xt = some .string) (hi : P.info? e = some i) (hz : i.zero = some z) (hl : (Builtin.lenOf v).run P w = .ok n w)
    (ho : (Builtin.firstCells i.size len (.slice base len cap)).run P w.drew = .ok old.toArray w.drew) (hn : (Builtin.firstCells i.size n v).run P w.drew = .ok new.toArray w.drew) (hgrow : cap < len + n)
    (hb : 0 < i.bytes) (hroom : (len + n) * i.bytes ≤ 140737488355328) :
    ∃ cap', len + n ≤ cap' ∧ (Builtin.append_ #[t, xt] ty #[.slice base len cap, v]).run P w =
      .ok (.slice (some ⟨w.heap.size, 0, none⟩) (len + n) cap') (w.drew.alloc (.cells ((old ++ new) ++ (Builtin.zeroCells z.cells (cap' - (len + n))).toList).toArray e)) := by
  refine ⟨Question.cut (.appendCap (len + n) cap e) (w.tape w.drawn (.appendCap (len + n) cap e)), by simp [Question.cut], ?_⟩
  generalize hq : Question.cut (.appendCap (len + n) cap e) (w.tape w.drawn (.appendCap (len + n) cap e)) = cap'
  have h1 : ¬ len + n ≤ cap := by omega
  have h2 : ¬ i.bytes = 0 := by omega
  have h3 : ¬ 2 ^ 48 < Builtin.nextslicecap (len + n) cap * i.bytes := by
    have := nextslicecap_le hgrow
    have k := Nat.mul_le_mul_right i.bytes this
    rw [Nat.mul_assoc] at k
    omega
  have hf : Question.forced (.appendCap (len + n) cap e) = false := rfl
  have hdrew : ({ w with drawn := w.drawn + 1 } : World) = w.drew := rfl
  rcases hxt with ⟨e', hxt⟩ | hxt
  all_goals
    simp [Builtin.append_, run_und ht, run_und hxt, run_size hi, run_ti hi, run_zero hi hz, hl, ho, hn, h1, run_choose, hf, h2, h3, hq, newRow]
    congr 2
    apply Array.ext'
    simp

theorem lenA_run {x : AV} {u : Value} {n : Nat} (hx : VR w0 ρ x u) (hr : lenA x = some n) : (Builtin.lenOf u).run P w = .ok n w := by
  cases hx <;> simp [lenA] at hr <;> subst hr <;> simp [Builtin.lenOf, ByteArray.size]

theorem appendA_run {t xt ty : TypeId} {s x z : AV} {u v : Value} (hT : TOk P T) (H : WR w0 ρ h w) (hr0 : appendA T h t xt s x = some (z, h')) (hs : VR w0 ρ s u) (hx : VR w0 ρ x v) :
    ∃ ρ' r w', (Builtin.append_ #[t, xt] ty #[u, v]).run P w = .ok r w' ∧ Ext ρ ρ' ∧ WR w0 ρ' h' w' ∧ VR w0 ρ' z r := by
  have main : ∀ e, (T t).desc = .slice e → ((∃ e', P.underlying xt = some (.slice e')) ∨ P.underlying xt = some .string) →
      (if !okT T e then none else
        match lenA x with
        | none => none
        | some n =>
          match elems h (T e).size n x with
          | none => none
          | some new =>
            match s with
            | .slice a len cap s0 ex =>
              if len + n ≤ cap then
                match a with
                | none => some (AV.slice none (len + n) cap s0 true, h)
                | some (i, o) =>
                  if new = [] then some (.slice (some (i, o)) (len + n) cap s0 ex, h)
                  else if s0 = (T e).size then match h.write i (o + len * (T e).size) new with
                    | some h' => some (.slice (some (i, o)) (len + n) cap (T e).size ex, h')
                    | none => none
                  else none
              else if (len + n) * (T e).bytes ≤ 140737488355328 ∧ 0 < (T e).bytes ∧ (T e).zero.length = (T e).size ∧ len + n ≤ 9223372036854775807 then
                match elems h (T e).size len s with
                | none => none
                | some old =>
                  match (match a with
                    | some (i, _) => if ex then some h else match h.get i with
                      | some (.cells _) => if s0 = (T e).size then some (h.set i .dead) else none
                      | _ => none
                    | none => some h) with
                  | none => none
                  | some h1 => some (.slice (some (h.size, 0)) (len + n) (len + n) (T e).size false, h1.push (.cells (old ++ new)))
              else none
            | .islice row off len cap s0 =>
              if len + n ≤ cap then (if new = [] then some (.islice row off (len + n) cap s0, h) else none)
              else if (len + n) * (T e).bytes ≤ 140737488355328 ∧ 0 < (T e).bytes ∧ (T e).zero.length = (T e).size ∧ len + n ≤ 9223372036854775807 then
                match elems h (T e).size len s with
                | none => none
                | some old => some (.slice (some (h.size, 0)) (len + n) (len + n) (T e).size false, h.push (.cells (old ++ new)))
              else none
            | _ => none) = some (z, h') →
      ∃ ρ' r w', (Builtin.append_ #[t, xt] ty #[u, v]).run P w = .ok r w' ∧ Ext ρ ρ' ∧ WR w0 ρ' h' w' ∧ VR w0 ρ' z r := by
    intro e hd hxt hr
    split at hr
    · simp at hr
    · rename_i hok
      have hbad : (T e).desc ≠ .bad := okT_ne (by simpa using hok)
      obtain ⟨i, zz, hi, hz, hzv, hz1, hsz, hby⟩ := zero_VRs (P := P) (w0 := w0) (ρ := ρ) hT hbad
      have ht := und_slice hT hd
      split at hr
      · simp at hr
      · rename_i n hn
        have hlen := lenA_run (P := P) (w := w) hx hn
        split at hr
        · simp at hr
        · rename_i new hnew
          obtain ⟨us, hrun, hus, hul, hu1⟩ := elems_run (P := P) H hnew hx
          obtain ⟨us', hrun', hus', _, _⟩ := elems_run (P := P) H.drew hnew hx
          rw [← hsz] at hrun hrun'
          have hul2 := hus.length
          -- a new array is made for certain
          have grow : ∀ (base : Option Addr) (len cap cap0 : Nat) (s : AV) (old : List AV) (hk : AH), VR w0 ρ s (.slice base len cap) → elems h (T e).size len s = some old → cap < len + n → (len + n) * (T e).bytes ≤ 140737488355328 → 0 < (T e).bytes →
              (T e).zero.length = (T e).size → WR w0 ρ hk w → hk.size = h.size → z = .slice (some (h.size, 0)) (len + n) (len + n) (T e).size false → h' = hk.push (.cells (old ++ new)) → u = .slice base len cap →
              ∃ ρ' r w', (Builtin.append_ #[t, xt] ty #[u, v]).run P w = .ok r w' ∧ Ext ρ ρ' ∧ WR w0 ρ' h' w' ∧ VR w0 ρ' z r := by
            intro base len cap cap0 s old hk hvs hold hlt hroom hb0 hzl Hk hks hz' hh' hu'
            obtain ⟨os, horun, hos, hol, ho1⟩ := elems_run (P := P) H.drew hold hvs
            rw [← hsz] at horun
            subst hu'
            obtain ⟨cap', hcap', hrunA⟩ := run_append_grow (P := P) (w := w) (ty := ty) (base := base) (len := len) (cap := cap) (n := n) (v := v) ht hxt hi hz hlen horun hrun' hlt (by rw [hby]; exact hb0) (by rw [hby]; exact hroom)
            have hvv := hos.append hus'
            have hone : (old ++ new).all AV.one = true := by rw [List.all_append, ho1, hu1]; rfl
            obtain ⟨ρ', he, hp, H'⟩ := Hk.drew.pushCells hvv hone (Builtin.zeroCells zz.cells (cap' - (len + n))).toList e (0, 0) (noFreeze_00 _)
            refine ⟨ρ', _, _, hrunA, he, by rw [hh']; exact H', ?_⟩
            rw [hz']
            rw [hks] at hp
            refine VR.slice h.size 0 (len + n) (len + n) (T e).size false _ cap' hp (Nat.le_refl _) hcap' (by simp) ?_
            have hzc : zz.cells.size = (T e).size := by rw [← hzl, hzv.length]; simp
            have l1 := hos.length
            have l2 := hus'.length
            simp only [Nat.zero_add, List.length_append, Array.length_toList, zeroCells_size, hzc]
            rw [← l1, ← l2, hol, hul, ← Nat.add_mul, ← Nat.add_mul]
            exact Nat.mul_le_mul_right _ (by omega)
          split at hr
          · rename_i a len cap s0 ex
            split at hr
            · rename_i hfit
              split at hr
              · simp at hr; obtain ⟨rfl, rfl⟩ := hr
                cases hs
                have hn0 : n = 0 := by omega
                subst hn0
                refine ⟨ρ, _, w, run_append_fits (P := P) (w := w) (ty := ty) ht hxt hi hlen hrun hfit (by simp) (fun _ => rfl), Ext.refl _, H, .slice0 _ _⟩
              · rename_i i' o
                split at hr
                · rename_i hnil
                  simp at hr; obtain ⟨rfl, rfl⟩ := hr
                  subst hnil
                  cases hus
                  cases hs with
                  | sliceE _ _ _ b =>
                    have hn0 : n = 0 := by omega
                    subst hn0
                    refine ⟨ρ, _, w, run_append_fits (P := P) (w := w) (ty := ty) ht hxt hi hlen hrun hfit (fun a ha => by simp [storeCells]) (by simp), Ext.refl _, H, ?_⟩
                    exact .sliceE _ _ _ _
                  | slice _ _ _ _ _ _ p cap' hp h1 h2 h3 h4 =>
                    refine ⟨ρ, _, w, run_append_fits (P := P) (w := w) (ty := ty) ht hxt hi hlen hrun (by omega) (fun a ha => by simp [storeCells]) (by simp), Ext.refl _, H, ?_⟩
                    exact .slice _ _ _ _ _ _ p cap' hp (by omega) h2 h3 h4
                · rename_i hne
                  split at hr
                  · rename_i hs0
                    split at hr
                    · rename_i hw' hwr
                      simp at hr; obtain ⟨rfl, rfl⟩ := hr
                      cases hs with
                      | sliceE _ _ _ b =>
                        exfalso
                        have hn0 : n = 0 := by omega
                        subst hn0
                        exact hne (List.eq_nil_of_length_eq_zero (by simpa using hul))
                      | slice _ _ _ _ _ _ p cap' hp h1 h2 h3 h4 =>
                        obtain ⟨w', hst, H'⟩ := H.write (P := P) hwr hp hus hu1
                        refine ⟨ρ, _, w', run_append_fits (P := P) (w := w) (ty := ty) ht hxt hi hlen hrun (by omega) (fun a ha => ?_) (by simp), Ext.refl _, H', ?_⟩
                        · cases ha
                          rw [add_none, hsz, Nat.add_assoc]
                          exact hst
                        · subst hs0
                          exact .slice _ _ _ _ _ _ p cap' hp (by omega) h2 h3 h4
                    · simp at hr
                  · simp at hr
            · rename_i hfit
              split at hr
              · rename_i hc
                obtain ⟨hroom, hb0, hzl, hmx⟩ := hc
                split at hr
                · simp at hr
                · rename_i old hold
                  cases hs with
                  | slice0 =>
                    simp at hr
                    exact grow none 0 0 0 _ old h (.slice0 _ _) hold (by omega) hroom hb0 hzl H rfl (by simpa using hr.1.symm) hr.2.symm rfl
                  | sliceE a' _ _ b =>
                    obtain ⟨ai, ao⟩ := a'
                    simp only at hr
                    split at hr
                    · simp at hr
                    · rename_i h1 hh1
                      simp at hr
                      split at hh1
                      · simp at hh1; subst hh1
                        exact grow _ 0 0 0 _ old h (.sliceE _ _ _ b) hold (by omega) hroom hb0 hzl H rfl (by simpa using hr.1.symm) hr.2.symm rfl
                      · split at hh1
                        · rename_i cs hcs
                          simp at hh1; obtain ⟨hs0, rfl⟩ := hh1
                          exact grow _ 0 0 0 _ old _ (.sliceE _ _ _ b) hold (by omega) hroom hb0 hzl (H.kill (H.lt hcs)) rfl (by simpa using hr.1.symm) hr.2.symm rfl
                        · simp at hh1
                  | slice i' o len cap s0 ex p cap' hp k1 k2 k3 k4 =>
                    simp only at hr
                    split at hr
                    · simp at hr
                    · rename_i h1 hh1
                      simp at hr
                      have hvs : VR w0 ρ (.slice (some (i', o)) len cap s0 ex) (.slice (some ⟨p.r, p.s + o, none⟩) len cap') := .slice _ _ _ _ _ _ p cap' hp k1 k2 k3 k4
                      split at hh1
                      · rename_i hex
                        simp at hh1; subst hh1
                        have : cap' = cap := k3 hex
                        exact grow _ len cap' 0 _ old h hvs hold (by omega) hroom hb0 hzl H rfl (by simpa using hr.1.symm) hr.2.symm rfl
                      · split at hh1
                        · rename_i cs hcs
                          simp at hh1; obtain ⟨hs0, rfl⟩ := hh1
                          rcases Nat.lt_or_ge cap' (len + n) with hlt | hge
                          · exact grow _ len cap' 0 _ old _ hvs hold hlt hroom hb0 hzl (H.kill (H.lt hcs)) rfl (by simpa using hr.1.symm) hr.2.symm rfl
                          · -- the model writes on in the elder array
                            obtain ⟨pl, c, TT, fz, hp', hB, hb, hR, hs', hf, hcv, hc1⟩ := H.cellsAt hcs
                            rw [hp] at hp'; cases hp'
                            have hmul : (len + n) * (T e).size ≤ cap' * s0 := by rw [hs0]; exact Nat.mul_le_mul_right _ hge
                            rw [Nat.add_mul] at hmul
                            have hcl : c.toList.length = p.R := by simpa using hR
                            have hol : old.length = len * (T e).size ∧ VRs w0 ρ old ((c.toList.drop (p.s + o)).take (len * (T e).size)) ∧ old.all AV.one = true := by
                              simp only [elems] at hold
                              split at hold
                              · rename_i h00
                                simp at hold; subst hold
                                have hz0 : len * (T e).size = 0 := by rcases h00 with h00 | h00 <;> simp [h00]
                                rw [hz0]
                                exact ⟨rfl, by simpa using VRs.nil, rfl⟩
                              · split at hold
                                · unfold AH.read at hold
                                  rw [hcs] at hold
                                  have hcut := hold
                                  simp only at hcut
                                  have hk := hcut
                                  unfold cut at hk
                                  split at hk
                                  · rename_i hle
                                    simp at hk
                                    refine ⟨by rw [← hk]; simp; omega, ?_, ?_⟩
                                    · have := hcv.cut hcut
                                      have e1 : (((c.toList.drop p.s).take cs.length).drop o).take (len * (T e).size) = (c.toList.drop (p.s + o)).take (len * (T e).size) := by
                                        rw [List.drop_take, List.take_take, List.drop_drop, Nat.min_eq_left (by omega)]
                                      rw [e1] at this
                                      exact this
                                    · subst hk
                                      rw [List.all_eq_true] at hc1 ⊢
                                      intro x hx
                                      exact hc1 x (List.mem_of_mem_drop (List.mem_of_mem_take hx))
                                  · simp at hk
                                · simp at hold
                            obtain ⟨hol1, hol2, hol3⟩ := hol
                            have hrunS := run_storeCells_row (P := P) (r := p.r) (o := p.s + o + len * (T e).size) (T := TT) (fz := fz) us 0 c w hb (by simp at hcl; omega) (by rw [hR]; exact hf) (hus.one hu1)
                            have hc2l : (overV c.toList (p.s + o + len * (T e).size) us).length = p.R := by rw [overV_length (by omega)]; exact hcl
                            have hmid : ((overV c.toList (p.s + o + len * (T e).size) us).drop (p.s + o)).take (old ++ new).length = (c.toList.drop (p.s + o)).take (len * (T e).size) ++ us := by
                              rw [overV_mid (n := (old ++ new).length) (by simp; omega) (by simp; omega)]
                              unfold overV
                              have l1 : (((c.toList.drop (p.s + o)).take (old ++ new).length)).length = len * (T e).size + us.length := by simp; omega
                              have e2 : ((c.toList.drop (p.s + o)).take (old ++ new).length).drop (len * (T e).size + us.length) = [] := List.drop_eq_nil_of_le (by rw [l1]; exact Nat.le_refl _)
                              rw [e2, List.append_nil, List.take_take, Nat.min_eq_left (by simp; omega)]
                            obtain ⟨H', hx⟩ := H.move (cs2 := old ++ new) hcs hp (s2 := p.s + o) (c2 := (overV c.toList (p.s + o + len * (T e).size) us).toArray) (T := TT) (fz := fz) (by simpa using hc2l) hf
                              (by simp; omega) (by simp only []; rw [hmid]; exact hol2.append hus) (by rw [List.all_append, hol3, hu1]; rfl)
                            refine ⟨_, _, _, run_append_fits (P := P) (w := w) (ty := ty) ht hxt hi hlen hrun hge (fun a ha => ?_) (by simp), hx, by rw [← hr.2]; exact H', ?_⟩
                            · cases ha
                              rw [add_none, hsz]
                              exact hrunS
                            · rw [← hr.1]
                              have := VR.slice (w0 := w0) h.size 0 (len + n) (len + n) (T e).size false ⟨p.r, p.s + o, p.R⟩ cap' (Rho.add_same ρ h.size ⟨p.r, p.s + o, p.R⟩) (Nat.le_refl _) hge (by simp) (by subst hs0; simpa using k4)
                              simpa using this
                        · simp at hh1
              · simp at hr
          · rename_i row off len cap s0
            split at hr
            · rename_i hfit
              split at hr
              · rename_i hnil
                simp at hr; obtain ⟨rfl, rfl⟩ := hr
                subst hnil
                cases hus
                cases hs with
                | islice _ _ _ _ _ b s vs hvs hcell h1 =>
                  refine ⟨ρ, _, w, run_append_fits (P := P) (w := w) (ty := ty) ht hxt hi hlen hrun hfit (fun a ha => by simp [storeCells]) (by simp), Ext.refl _, H, ?_⟩
                  exact .islice _ _ _ _ _ b s vs hvs hcell hfit
                | isliceE _ _ _ b =>
                  have hn0 : n = 0 := by omega
                  subst hn0
                  refine ⟨ρ, _, w, run_append_fits (P := P) (w := w) (ty := ty) ht hxt hi hlen hrun hfit (fun a ha => by simp [storeCells]) (by simp), Ext.refl _, H, ?_⟩
                  exact .isliceE _ _ _ _
              · simp at hr
            · rename_i hfit
              split at hr
              · rename_i hc
                obtain ⟨hroom, hb0, hzl, hmx⟩ := hc
                split at hr
                · simp at hr
                · rename_i old hold
                  simp at hr
                  cases hs with
                  | islice row off len cap s0 b s vs hvs hcell h1 =>
                    exact grow _ len cap 0 _ old h (.islice _ _ _ _ _ b s vs hvs hcell h1) hold (by omega) hroom hb0 hzl H rfl (by simpa using hr.1.symm) hr.2.symm rfl
                  | isliceE _ _ _ b =>
                    exact grow _ 0 0 0 _ old h (.isliceE _ _ _ b) hold (by omega) hroom hb0 hzl H rfl (by simpa using hr.1.symm) hr.2.symm rfl
              · simp at hr
          · simp at hr
  unfold appendA at hr0
  split at hr0
  · rename_i e e' hd hd'
    exact main e hd (.inl ⟨e', und_slice hT hd'⟩) hr0
  · rename_i e hd hd'
    exact main e hd (.inr (und_string hT hd')) hr0
  · simp at hr0
end ops
end Go.Abs
