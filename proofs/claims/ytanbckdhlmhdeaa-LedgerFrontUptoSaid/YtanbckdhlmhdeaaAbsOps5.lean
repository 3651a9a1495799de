/- Each operation of the abstract machine is the model's. Fifth part: copy, clear, what is built; the sum. -/
import Derived.Test.YtanbckdhlmhdeaaAbsOps4
set_option linter.unusedSimpArgs false
set_option linter.unusedVariables false
namespace Go.Abs
open Go.RowKit
section ops
variable {P : Program} {T : Tys} {w0 w : World} {ρ : Rho} {h h' : AH}

theorem copyA_run {t xt ty : TypeId} {d x z : AV} {u v : Value} (hT : TOk P T) (H : WR w0 ρ h w) (hr : copyA T h t d x = some (z, h')) (hd : VR w0 ρ d u) (hx : VR w0 ρ x v) :
    ∃ ρ' r w', (Builtin.copy_ #[t, xt] ty #[u, v]).run P w = .ok r w' ∧ Ext ρ ρ' ∧ WR w0 ρ' h' w' ∧ VR w0 ρ' z r := by
  unfold copyA at hr
  split at hr
  · rename_i e hdd
    simp only at hr
    split at hr
    · simp at hr
    · rename_i hok
      have hbad : (T e).desc ≠ .bad := okT_ne (by simpa using hok)
      obtain ⟨i, zz, hi, hz, hzv, hz1, hsz, hby⟩ := zero_VRs (P := P) (w0 := w0) (ρ := ρ) hT hbad
      have ht := und_slice hT hdd
      split at hr
      · rename_i a len cap s0 ex m k hk hm
        have hlen := lenA_run (P := P) (w := w) hx hk
        simp [lenA] at hm; subst hm
        split at hr
        · simp at hr
        · rename_i new hnew
          obtain ⟨us, hrun, hus, hul, hu1⟩ := elems_run (P := P) H hnew hx
          rw [← hsz] at hrun
          have go : ∀ (base : Option Addr) (c : Nat) (w' : World), u = .slice base len c → (∀ a, base = some a → (storeCells a us).run P w = .ok () w') → (base = none → w' = w) → (Builtin.copy_ #[t, xt] ty #[u, v]).run P w = .ok (.int .i64 (min k len : Nat)) w' := by
            intro base c w' hu hst hno
            subst hu
            have e1 : Nat.min k len = min k len := rfl
            cases base with
            | none =>
              rw [hno rfl]
              simp [Builtin.copy_, run_und ht, hlen, run_size hi, e1, hrun, goInt]
            | some a =>
              have := hst a rfl
              simp [Builtin.copy_, run_und ht, hlen, run_size hi, e1, hrun, goInt, this]
          split at hr
          · simp at hr; obtain ⟨rfl, rfl⟩ := hr
            cases hd
            exact ⟨ρ, _, w, go none 0 w rfl (by simp) (fun _ => rfl), Ext.refl _, H, .int _ _⟩
          · rename_i i' o
            split at hr
            · rename_i hnil
              simp at hr; obtain ⟨rfl, rfl⟩ := hr
              subst hnil
              cases hus
              cases hd with
              | sliceE _ _ _ b => exact ⟨ρ, _, w, go _ 0 w rfl (fun a ha => by simp [storeCells]) (by simp), Ext.refl _, H, .int _ _⟩
              | slice _ _ _ _ _ _ p cap' hp h1 h2 h3 h4 => exact ⟨ρ, _, w, go _ cap' w rfl (fun a ha => by simp [storeCells]) (by simp), Ext.refl _, H, .int _ _⟩
            · rename_i hne
              split at hr
              · rename_i hs0
                obtain ⟨hw', hwr, hz'⟩ := Option.map_eq_some_iff.1 hr
                simp at hz'; obtain ⟨rfl, rfl⟩ := hz'
                cases hd with
                | sliceE _ _ _ b =>
                  exfalso
                  exact hne (List.eq_nil_of_length_eq_zero (by simpa using hul))
                | slice _ _ _ _ _ _ p cap' hp h1 h2 h3 h4 =>
                  obtain ⟨w', hst, H'⟩ := H.write (P := P) hwr hp hus hu1
                  refine ⟨ρ, _, w', go _ cap' w' rfl (fun a ha => ?_) (by simp), Ext.refl _, H', .int _ _⟩
                  cases ha
                  exact hst
              · simp at hr
      · simp at hr
  · simp at hr

theorem rep_length (z : List AV) (n : Nat) : (rep z n).length = n * z.length := by
  induction n with
  | zero => simp [rep]
  | succ n ih => simp [rep, ih, Nat.add_mul]; omega
theorem rep_get (z : List AV) (n j : Nat) (hj : j < n * z.length) : (rep z n)[j]? = z[j % z.length]? := by
  induction n generalizing j with
  | zero => simp at hj
  | succ n ih =>
    simp only [rep]
    by_cases h : j < z.length
    · rw [List.getElem?_append_left h, Nat.mod_eq_of_lt h]
    · have e : j % z.length = (j - z.length) % z.length := Nat.mod_eq_sub_mod (by omega)
      rw [Nat.succ_mul] at hj
      rw [List.getElem?_append_right (by omega), ih (j - z.length) (by omega), e]
theorem rep_one {z : List AV} (h : z.all AV.one = true) (n : Nat) : (rep z n).all AV.one = true := by
  induction n with
  | zero => rfl
  | succ n ih => simp only [rep, List.all_append, h, ih]; rfl
/-- So many zero values, as the model makes them. -/
theorem rep_VRs {z : List AV} {zs : Array Value} (h : VRs w0 ρ z zs.toList) (n m : Nat) (hm : m = n * zs.size) : VRs w0 ρ (rep z n) ((Array.range m).map (zs[· % zs.size]!)).toList := by
  have hl : z.length = zs.size := by rw [h.length]; simp
  subst hm
  refine .of_get (by rw [rep_length, hl]; simp) ?_
  intro j x u hx hu
  have hj : j < n * zs.size := by
    have := (List.getElem?_eq_some_iff.1 hx).1
    rw [rep_length, hl] at this
    exact this
  rw [rep_get z n j (by rw [hl]; exact hj)] at hx
  obtain ⟨y, hy, hv⟩ := h.get hx
  simp [hj] at hu
  have hpos : 0 < zs.size := by
    rcases Nat.eq_zero_or_pos zs.size with h0 | h0
    · rw [h0] at hj; simp at hj
    · exact h0
  have hmod : j % zs.size < zs.size := Nat.mod_lt _ hpos
  rw [hl] at hy
  simp at hy
  rw [← hu]
  have e : zs[j % zs.size]'hmod = y := by simpa [hmod] using hy
  simp only [getElem!_pos, hmod]
  rw [e]
  exact hv
theorem rep_VRs' {z : List AV} {zs : Array Value} (h : VRs w0 ρ z zs.toList) (n : Nat) : VRs w0 ρ (rep z n) (Builtin.zeroCells zs n).toList := by
  have := rep_VRs h n _ rfl
  unfold Builtin.zeroCells
  exact this
theorem clearA_run {t ty : TypeId} {x z : AV} {v : Value} (hT : TOk P T) (H : WR w0 ρ h w) (hr : clearA T h t x = some (z, h')) (hx : VR w0 ρ x v) :
    ∃ ρ' r w', (Builtin.clear_ #[t] ty #[v]).run P w = .ok r w' ∧ Ext ρ ρ' ∧ WR w0 ρ' h' w' ∧ VR w0 ρ' z r := by
  unfold clearA at hr
  split at hr
  · rename_i e hdd
    split at hr
    · simp at hr
    · rename_i hok
      have hbad : (T e).desc ≠ .bad := okT_ne (by simpa using hok)
      obtain ⟨i, zz, hi, hz, hzv, hz1, hsz, hby⟩ := zero_VRs (P := P) (w0 := w0) (ρ := ρ) hT hbad
      have ht := und_slice hT hdd
      split at hr
      · simp at hr; obtain ⟨rfl, rfl⟩ := hr
        cases hx
        exact ⟨ρ, _, w, by simp [Builtin.clear_, run_und ht], Ext.refl _, H, .tuple [] [] .nil⟩
      · rename_i i' o n cap s0 ex
        split at hr
        · rename_i h0
          simp at hr; obtain ⟨rfl, rfl⟩ := hr
          subst h0
          cases hx <;> exact ⟨ρ, _, w, by simp [Builtin.clear_, run_und ht], Ext.refl _, H, .tuple [] [] .nil⟩
        · rename_i h0
          split at hr
          · rename_i hc
            obtain ⟨hw', hwr, hz'⟩ := Option.map_eq_some_iff.1 hr
            simp at hz'; obtain ⟨rfl, rfl⟩ := hz'
            cases hx with
            | sliceE => exact absurd rfl h0
            | slice _ _ _ _ _ _ p cap' hp h1 h2 h3 h4 =>
              obtain ⟨w', hst, H'⟩ := H.write (P := P) hwr hp (rep_VRs' hzv n) (rep_one hz1 n)
              refine ⟨ρ, .tuple #[], w', ?_, Ext.refl _, H', .tuple [] [] .nil⟩
              cases n with
              | zero => exact absurd rfl h0
              | succ n => simp [Builtin.clear_, run_und ht, run_zero hi hz, hst]
          · simp at hr
      · rename_i row off n cap s0
        split at hr
        · rename_i h0
          simp at hr; obtain ⟨rfl, rfl⟩ := hr
          subst h0
          cases hx <;> exact ⟨ρ, _, w, by simp [Builtin.clear_, run_und ht], Ext.refl _, H, .tuple [] [] .nil⟩
        · simp at hr
      · simp at hr
  · simp at hr

theorem VRs.two {a b : AV} {us : List Value} (hv : VRs w0 ρ [a, b] us) : ∃ u v, us = [u, v] ∧ VR w0 ρ a u ∧ VR w0 ρ b v := by
  cases hv with | cons _ u _ vs h hs => obtain ⟨v, rfl, hv⟩ := hs.single; exact ⟨u, v, rfl, h, hv⟩
theorem builtinA_run {b : Builtin} {ty : TypeId} {ts : List TypeId} {args : List AV} {us : List Value} {z : AV} (hT : TOk P T) (H : WR w0 ρ h w) (hr : builtinA T h b ts args = some (z, h')) (hxs : VRs w0 ρ args us) :
    ∃ ρ' r w', (∀ consts : Array Bool, (builtin b ts.toArray ty consts us.toArray).run P w = .ok (.value r) w') ∧ Ext ρ ρ' ∧ WR w0 ρ' h' w' ∧ VR w0 ρ' z r := by
  unfold builtinA at hr
  split at hr
  · rename_i t xt s x
    obtain ⟨u, v, rfl, hs, hx⟩ := hxs.two
    obtain ⟨ρ', r, w', h1, h2, h3, h4⟩ := appendA_run (P := P) (ty := ty) hT H hr hs hx
    exact ⟨ρ', r, w', fun _ => by simp [builtin, h1], h2, h3, h4⟩
  · rename_i t x
    obtain ⟨u, rfl, hx⟩ := hxs.single
    split at hr
    · rename_i s hdd
      simp at hr; obtain ⟨rfl, rfl⟩ := hr
      cases hx
      have hsz : (⟨s.toArray⟩ : ByteArray).size = s.length := by simp [ByteArray.size]
      exact ⟨ρ, _, w, fun _ => by simp [builtin, Builtin.len_, run_und (und_string hT hdd), hsz, goInt], Ext.refl _, H, .int _ _⟩
    · rename_i e _ n _ _ _ hdd
      simp at hr; obtain ⟨rfl, rfl⟩ := hr
      cases hx <;> exact ⟨ρ, _, w, fun _ => by simp [builtin, Builtin.len_, run_und (und_slice hT hdd), goInt], Ext.refl _, H, .int _ _⟩
    · rename_i e _ _ n _ _ hdd
      simp at hr; obtain ⟨rfl, rfl⟩ := hr
      cases hx <;> exact ⟨ρ, _, w, fun _ => by simp [builtin, Builtin.len_, run_und (und_slice hT hdd), goInt], Ext.refl _, H, .int _ _⟩
    · simp at hr
  · rename_i t xt d x
    obtain ⟨u, v, rfl, hd, hx⟩ := hxs.two
    obtain ⟨ρ', r, w', h1, h2, h3, h4⟩ := copyA_run (P := P) (xt := xt) (ty := ty) hT H hr hd hx
    exact ⟨ρ', r, w', fun _ => by simp [builtin, h1], h2, h3, h4⟩
  · rename_i t x
    obtain ⟨v, rfl, hx⟩ := hxs.single
    obtain ⟨ρ', r, w', h1, h2, h3, h4⟩ := clearA_run (P := P) (ty := ty) hT H hr hx
    exact ⟨ρ', r, w', fun _ => by simp [builtin, h1], h2, h3, h4⟩
  · rename_i k x k' y
    obtain ⟨u, v, rfl, hd, hx⟩ := hxs.two
    simp at hr; obtain ⟨rfl, rfl⟩ := hr
    cases hd; cases hx
    exact ⟨ρ, _, w, fun _ => by simp [builtin, Builtin.min_, Builtin.min2], Ext.refl _, H, .int _ _⟩
  · rename_i k x k' y
    obtain ⟨u, v, rfl, hd, hx⟩ := hxs.two
    simp at hr; obtain ⟨rfl, rfl⟩ := hr
    cases hd; cases hx
    exact ⟨ρ, _, w, fun _ => by simp [builtin, Builtin.max_, Builtin.max2], Ext.refl _, H, .int _ _⟩
  · simp at hr

/-! ### What is built -/
theorem foldl_set (new : List Value) (cells : Array Value) (off k : Nat) (h : off + k + new.length ≤ cells.size) :
    (new.zipIdx k).foldl (fun (cs : Array Value) (p : Value × Nat) => cs.setIfInBounds (off + p.2) p.1) cells = (overV cells.toList (off + k) new).toArray := by
  induction new generalizing cells k with
  | nil => simp [overV]
  | cons v r ih =>
    simp only [List.zipIdx_cons, List.foldl_cons]
    simp at h
    rw [ih _ _ (by simp; omega)]
    congr 1
    unfold overV
    have hl : off + k < cells.toList.length := by simp; omega
    rw [show off + (k + 1) = off + k + 1 by omega, Array.toList_setIfInBounds, List.take_set, List.drop_set, if_pos (by omega), List.take_succ_eq_append_getElem hl, List.set_append_right _ _ (by simp; omega), show off + k + 1 + r.length = off + k + (r.length + 1) by omega]
    have : off + k ≤ cells.size := by omega
    simp [Nat.min_eq_left this]
theorem fillA_run {place : Nat → Option (Nat × Nat)} : ∀ {l : List (Nat × AV)} {lv : List (Nat × Value)} {cells : List AV} {cv : Array Value} {out : List AV}, fillA place cells l = some out → VRs w0 ρ cells cv.toList →
    l.map (·.1) = lv.map (·.1) → VRs w0 ρ (l.map (·.2)) (lv.map (·.2)) → cells.all AV.one = true → ∃ ov : Array Value, Instr.fill place cv lv = some ov ∧ VRs w0 ρ out ov.toList ∧ out.all AV.one = true
  | [], lv, cells, cv, out, hr, hc, h1, h2, h3 => by
    simp [fillA] at hr; subst hr
    cases lv with
    | nil => exact ⟨cv, rfl, hc, h3⟩
    | cons => simp at h1
  | (i, a) :: l, lv, cells, cv, out, hr, hc, h1, h2, h3 => by
    cases lv with
    | nil => simp at h1
    | cons p lv =>
      obtain ⟨i', v⟩ := p
      simp at h1
      obtain ⟨rfl, h1⟩ := h1
      simp only [List.map_cons] at h2
      cases h2 with
      | cons _ _ _ _ hv h2 =>
      simp only [fillA] at hr
      split at hr
      · simp at hr
      · rename_i off size hpl
        split at hr
        · rename_i hcnd
          obtain ⟨c1, c2, c3⟩ := hcnd
          have hl := hv.cells.length
          have hcl := hc.length
          simp at hl hcl
          have hnew : VRs w0 ρ (Abs.over cells off a.cells) (overV cv.toList (off + 0) v.cells.toList).toArray.toList := by
            simp only [Nat.add_zero]
            exact hc.over hv.cells off
          obtain ⟨ov, ho1, ho2, ho3⟩ := fillA_run hr hnew h1 h2 (all_over h3 c3)
          refine ⟨ov, ?_, ho2, ho3⟩
          rw [← ho1]
          have hfold := foldl_set v.cells.toList cv off 0 (by simp; omega)
          rw [← hfold]
          have n1 : ¬ (v.cells.size ≠ size ∨ off + v.cells.size > cv.size) := by omega
          simp [Instr.fill, hpl]
          rw [if_neg (by simpa using n1)]
          congr 1
          generalize v.cells = vc
          obtain ⟨L⟩ := vc
          simp
        · simp at hr
end ops
end Go.Abs
