/- Each operation of the abstract machine is the model's: all together. -/
import Derived.Test.YtanbckdhlmhdeaaAbsOps5
import Derived.Laws.BitsLemmas
set_option linter.unusedSimpArgs false
set_option linter.unusedVariables false
namespace Go.Abs
open Go.RowKit
section ops
variable {P : Program} {T : Tys} {w0 w : World} {ρ : Rho} {h h' : AH}

theorem evParts_VR {e : Env} {A : Act} (he : EnvR w0 ρ e A.tmps) : ∀ {ps : List (Nat × Operand)} {l : List (Nat × AV)}, evParts e ps = some l →
    l.map (·.1) = (ps.map fun p => (p.1, A.eval p.2)).map (·.1) ∧ VRs w0 ρ (l.map (·.2)) ((ps.map fun p => (p.1, A.eval p.2)).map (·.2))
  | [], l, hr => by simp [evParts] at hr; subst hr; exact ⟨rfl, .nil⟩
  | (i, x) :: r, l, hr => by
    simp only [evParts] at hr
    split at hr
    · rename_i a l' ha hl'
      simp at hr; subst hr
      obtain ⟨k1, k2⟩ := evParts_VR he hl'
      exact ⟨by simp only [List.map_cons, k1], .cons _ _ _ _ (ev_VR he ha) k2⟩
    · simp at hr
theorem run_mapM_list {α β : Type} (f : α → Sem β) (g : α → β) (xs : List α) (hf : ∀ x ∈ xs, (f x).run P w = .ok (g x) w) : (xs.mapM f).run P w = .ok (xs.map g) w := by
  induction xs with
  | nil => simp [List.mapM_nil]
  | cons x xs ih =>
    rw [List.mapM_cons]
    simp [hf x (by simp), ih fun y hy => hf y (by simp [hy])]
theorem run_mapM {α β : Type} (f : α → Sem β) (g : α → β) (xs : Array α) (hf : ∀ x ∈ xs.toList, (f x).run P w = .ok (g x) w) : (xs.mapM f).run P w = .ok (xs.map g) w := by
  have e : xs.mapM f = (do let l ← xs.toList.mapM f; pure l.toArray : Sem (Array β)) := by
    rw [Array.mapM_eq_mapM_toList]
    rfl
  rw [e]
  simp [run_mapM_list f g xs.toList hf]
  apply Array.ext'
  simp
theorem partA_run {t : TypeId} {cs : List AV} {vs : List Value} {off : Nat} {x : AV} (hT : TOk P T) (hr : partA T t cs off = some x) (hv : VRs w0 ρ cs vs) : ∃ u, (part t vs.toArray off).run P w = .ok u w ∧ VR w0 ρ x u := by
  unfold partA at hr
  split at hr
  · simp at hr
  · rename_i hne
    have hbad : (T t).desc ≠ .bad := fun e => hne e
    split at hr
    · rename_i hag
      obtain ⟨c, hc, rfl⟩ := Option.map_eq_some_iff.1 hr
      obtain ⟨i, D, z, hi, hu, hd, hsz, _⟩ := hT.get hbad
      have hagg := run_isAgg (P := P) (w := w) hu (by rw [hd]; exact hbad)
      rw [hd, hag] at hagg
      refine ⟨_, ?_, .agg _ _ (hv.cut hc)⟩
      have e : vs.toArray.extract off (off + (T t).size) = ((vs.drop off).take (T t).size).toArray := by
        apply Array.ext'
        simp
      simp [part, hagg, run_size hi, hsz, e]
    · rename_i hag
      exact part_run hT hv (by simpa using hag) hbad hr

theorem wrap64_of {n : Int} (h1 : -9223372036854775808 ≤ n) (h2 : n ≤ 9223372036854775807) : IntKind.i64.wrap n = n := by
  rw [IntKind.wrap_i64]; omega
/-- What the model does at an operation, in the abstract machine's words. -/
def Sound (P : Program) (w0 : World) (ρ : Rho) (s : Sem Next) (w : World) : OpR → Prop
  | .val v h' => Res P w0 ρ s w v h'
  | .enter f args => ∃ us : List Value, VRs w0 ρ args us ∧ ∀ fn c, P.funcs[f]? = some fn → fn.body = some c → s.run P w = .ok (.enter f us.toArray) w
  | .round l args => ∃ (us : List Value) (p : Pl), ρ l = some p ∧ VRs w0 ρ args us ∧ s.run P w = (Instr.yield p.r us.toArray).run P w

theorem oi_of {e : Env} {A : Act} (he : EnvR w0 ρ e A.tmps) {x : Option Operand} {a : Option AV} {n : Option Int} (h1 : evO e x = some a) (h2 : asI a = some n) : OI n (x.map A.eval) := by
  cases x with
  | none => simp [evO] at h1; subst h1; simp [asI] at h2; subst h2; exact OI.none
  | some x =>
    simp only [evO, Option.map_eq_some_iff] at h1
    obtain ⟨b, hb, rfl⟩ := h1
    have := ev_VR he hb
    cases b <;> simp [asI] at h2
    subst h2
    simp only [Option.map_some]
    generalize A.eval x = u at this
    cases this
    exact OI.some _ _

theorem evalOp_sound {e : Env} {A : Act} {o : Oper} {r : OpR} (hT : TOk P T) (hF : FOk P) (H : WR w0 ρ h w) (he : EnvR w0 ρ e A.tmps) (hr : evalOp T e o h = some r) : Sound P w0 ρ (execOp A.eval o) w r := by
  obtain ⟨dst, op, type, pos, after, guard⟩ := o
  have same : ∀ {s : Sem Value} {v : AV} {u : Value}, s.run P w = .ok u w → VR w0 ρ v u → Res P w0 ρ (do pure (.value (← s))) w v h := fun hs hv => Res.val hs H hv
  have mem : ∀ {s : Sem Value} {v : AV} {h' : AH}, (∃ ρ' u w', s.run P w = .ok u w' ∧ Ext ρ ρ' ∧ WR w0 ρ' h' w' ∧ VR w0 ρ' v u) → Res P w0 ρ (do pure (.value (← s))) w v h' := fun ⟨ρ', u, w', hs, hx, H', hv⟩ =>
    ⟨ρ', u, w', .value u, by simp [hs], .inl rfl, hx, H', hv⟩
  have pur : ∀ {v : AV} {u : Value}, VR w0 ρ v u → Res P w0 ρ (pure (.value u)) w v h := fun hv => ⟨ρ, _, w, _, rfl, .inl rfl, Ext.refl _, H, hv⟩
  cases op <;> simp only [evalOp] at hr <;> try (simp at hr; done)
  case move x =>
    obtain ⟨a, ha, rfl⟩ := Option.map_eq_some_iff.1 hr
    exact pur (ev_VR he ha)
  case assign x =>
    obtain ⟨a, ha, rfl⟩ := Option.map_eq_some_iff.1 hr
    exact pur (ev_VR he ha)
  case pick c a b =>
    split at hr
    · rename_i t ht
      obtain ⟨z, hz, rfl⟩ := Option.map_eq_some_iff.1 hr
      have := ev_VR he ht
      simp only [Sound, execOp]
      generalize A.eval c = u at this
      cases this
      refine ⟨ρ, if t then A.eval a else A.eval b, w, .value _, by simp [asBool], .inl rfl, Ext.refl _, H, ?_⟩
      split at hz <;> simp only [*, if_true, if_false] <;> exact ev_VR he hz
    · simp at hr
  case alloc el =>
    split at hr
    · simp at hr
    · rename_i hne
      simp at hr; subst hr
      obtain ⟨i, z, hi, hz, hv, h1, _⟩ := zero_VRs (P := P) (w0 := w0) (ρ := ρ) hT (fun e => hne e)
      obtain ⟨ρ', u, w', hrun, hx, H', hvr⟩ := newVar_run (P := P) H hv h1 el
      refine mem ⟨ρ', u, w', ?_, hx, H', hvr⟩
      simp [Instr.alloc, run_zero hi hz] at hrun ⊢
      exact hrun
  case box el x =>
    split at hr
    · rename_i a ha
      split at hr
      · rename_i h1
        simp at hr; subst hr
        obtain ⟨ρ', u, w', hrun, hx, H', hvr⟩ := newVar_run (P := P) H (ev_VR he ha).cells h1 el
        refine mem ⟨ρ', u, w', ?_, hx, H', hvr⟩
        simp [Instr.box] at hrun ⊢
        exact hrun
      · simp at hr
    · simp at hr
  case build t ps =>
    split at hr
    · rename_i fs l hdd hl
      split at hr
      · simp at hr
      · rename_i hall
        obtain ⟨z, hz, rfl⟩ := Option.map_eq_some_iff.1 hr
        obtain ⟨out, hout, rfl⟩ := Option.map_eq_some_iff.1 hz
        have hbad : (T t).desc ≠ .bad := by rw [hdd]; simp
        obtain ⟨i, zz, hi, hzz, hv, h1, _⟩ := zero_VRs (P := P) (w0 := w0) (ρ := ρ) hT hbad
        obtain ⟨d, hu, hd⟩ := und_of hT hbad
        obtain ⟨f, rfl, hfs⟩ := tdOf_struct (hd.trans hdd)
        obtain ⟨k1, k2⟩ := evParts_VR he hl
        obtain ⟨ov, ho1, ho2, ho3⟩ := fillA_run hout hv k1 k2 h1
        refine same (s := Instr.build t (ps.map fun (i, x) => (i, A.eval x))) (u := .agg ov) ?_ (by have := VR.agg _ _ ho2; simpa using this)
        have hm := run_mapM (P := P) (w := w) (fun f : Field => do pure (f.offset, ← sizeOf f.type)) (fun f => (f.offset, (T f.type).size)) f (by
          intro x hx
          have hok : okT T x.type = true := by
            have hall' : (fs.all fun f => okT T f.1) = true := by
              cases hq : (fs.all fun f => okT T f.1) with
              | true => rfl
              | false => rw [hq] at hall; simp at hall
            have := List.all_eq_true.1 hall' (x.type, x.offset, x.name != "_") (by rw [hfs]; exact List.mem_map.2 ⟨x, hx, rfl⟩)
            exact this
          obtain ⟨ti, _, _, hti, _, _, hts, _⟩ := hT.get (okT_ne hok)
          simp [run_size hti, hts])
        have hpl : (fun (j : Nat) => (f.map fun f => (f.offset, (T f.type).size))[j]?) = (fun (i : Nat) => (fs[i]?).map fun (f : Nat × Nat × Bool) => (f.2.1, (T f.1).size)) := by
          funext j
          rw [hfs]
          simp
          cases f[j]? <;> rfl
        have hlv : (ps.map fun (i, x) => (i, A.eval x)).toList = ps.toList.map fun p => (p.1, A.eval p.2) := by simp
        simp only [Instr.build, Sem.run_bind, run_zero hi hzz, run_und hu, Result.andThen_ok, hm, hpl, hlv, ho1, Sem.run_pure]
    · simp at hr
  case buildSlice t n ps =>
    split at hr
    · rename_i el l hdd hl
      split at hr
      · rename_i hc
        obtain ⟨hok, hn, hzl⟩ := hc
        split at hr
        · rename_i cs hcs
          simp at hr; subst hr
          obtain ⟨i, zz, hi, hz, hv, h1, hsz, _⟩ := zero_VRs (P := P) (w0 := w0) (ρ := ρ) hT (okT_ne hok)
          obtain ⟨k1, k2⟩ := evParts_VR he hl
          have hzc : zz.cells.size = (T el).size := by rw [← hzl, hv.length]; simp
          have hrep := rep_VRs hv n (n * (T el).size) (by rw [hzc])
          obtain ⟨ov, ho1, ho2, ho3⟩ := fillA_run hcs hrep k1 k2 (rep_one h1 n)
          obtain ⟨ρ', hx, hp, H'⟩ := H.pushCells ho2 ho3 [] el (0, 0) (noFreeze_00 _)
          refine mem ⟨ρ', .slice (some ⟨w.heap.size, 0, none⟩) n n, _, ?_, hx, H', ?_⟩
          · have hlv : (ps.map fun (i, x) => (i, A.eval x)).toList = ps.toList.map fun p => (p.1, A.eval p.2) := by simp
            have n1 : ¬ n * (T el).size > 2 ^ 24 := by omega
            by_cases h0 : n * (T el).size = 0
            · rw [h0] at ho1
              simp only [Instr.buildSlice, Sem.run_bind, run_und (und_slice hT hdd), Result.andThen_ok, run_size hi, hsz, Sem.run_ite, if_neg n1, h0, if_true, Sem.run_pure, hlv]
              have r0 : ∀ f : Nat → Value, (Array.range 0).map f = #[] := fun f => by apply Array.eq_empty_of_size_eq_zero; simp
              rw [r0] at ho1
              simp only [r0, ho1]
              simp [newRow]
            · simp only [Instr.buildSlice, Sem.run_bind, run_und (und_slice hT hdd), Result.andThen_ok, run_size hi, hsz, Sem.run_ite, if_neg n1, h0, if_false, run_zero hi hz, Sem.run_pure, hlv, ho1]
              simp [newRow]
          · refine VR.slice h.size 0 n n (T el).size true _ n hp (Nat.le_refl _) (Nat.le_refl _) (fun _ => rfl) ?_
            have l1 := ho2.length
            have l2 : cs.length = n * (T el).size := by
              have key : ∀ {l : List (Nat × AV)} {c out : List AV}, fillA (fun i => some (i * (T el).size, (T el).size)) c l = some out → out.length = c.length := by
                intro l
                induction l with
                | nil => intro c out hf; simp [fillA] at hf; rw [hf]
                | cons p l ih =>
                  obtain ⟨i, a⟩ := p
                  intro c out hf
                  simp only [fillA] at hf
                  split at hf
                  · rename_i hcc
                    rw [ih hf, over_length (by omega)]
                  · simp at hf
              rw [key hcs, rep_length, hzl]
            simp only [List.length_nil, Nat.add_zero, Nat.zero_add]
            omega
        · simp at hr
      · simp at hr
    · simp at hr
  case load t a =>
    split at hr
    · rename_i x hx
      obtain ⟨z, hz, rfl⟩ := Option.map_eq_some_iff.1 hr
      obtain ⟨u, hrun, hv⟩ := loadA_run (P := P) hT H hz (ev_VR he hx)
      exact same hrun hv
    · simp at hr
  case store t a x =>
    split at hr
    · rename_i p y hp hy
      obtain ⟨h2, hs, rfl⟩ := Option.map_eq_some_iff.1 hr
      obtain ⟨w', hrun, H'⟩ := storeA_run (P := P) hT H hs (ev_VR he hp) (ev_VR he hy)
      exact ⟨ρ, undef, w', .skip, by simp [execOp, hrun], .inr ⟨rfl, rfl⟩, Ext.refl _, H', undef_VR⟩
    · simp at hr
  case nilCheck x =>
    have key : ∀ {v : AV} {u : Value}, A.eval x = u → VR w0 ρ v u → (∀ (s : Sem Next), True) → (match u with
        | .pointer none | .nilIface | .nilFunc => False
        | .func (.method _) _ _ => False
        | _ => True) → Res P w0 ρ (execOp A.eval ⟨dst, .nilCheck x, type, pos, after, guard⟩) w v h := by
      intro v u hu hv _ hm
      refine ⟨ρ, u, w, .value u, ?_, .inl rfl, Ext.refl _, H, hv⟩
      simp only [execOp, hu]
      cases hv <;> first | rfl | exact hm.elim
    split at hr
    · rename_i a ha
      simp at hr; subst hr
      have hv := ev_VR he ha
      refine key rfl hv (fun _ => trivial) ?_
      generalize A.eval x = u at hv
      cases hv; trivial
    · rename_i ro o' ha
      simp at hr; subst hr
      have hv := ev_VR he ha
      refine key rfl hv (fun _ => trivial) ?_
      generalize A.eval x = u at hv
      cases hv; trivial
    · rename_i f c ha
      simp at hr; subst hr
      have hv := ev_VR he ha
      refine key rfl hv (fun _ => trivial) ?_
      generalize A.eval x = u at hv
      cases hv; trivial
    · rename_i l ha
      simp at hr; subst hr
      have hv := ev_VR he ha
      refine key rfl hv (fun _ => trivial) ?_
      generalize A.eval x = u at hv
      cases hv; trivial
    · simp at hr
  case binOp op t x y yt =>
    split at hr
    · rename_i a b ha hb
      obtain ⟨z, hz, rfl⟩ := Option.map_eq_some_iff.1 hr
      obtain ⟨u, hrun, hv⟩ := binA_run (P := P) (w := w) (xo := x) (yo := y) hT hz (ev_VR he ha) (ev_VR he hb)
      exact same hrun hv
    · simp at hr
  case unOp op t x =>
    split at hr
    · rename_i a ha
      obtain ⟨z, hz, rfl⟩ := Option.map_eq_some_iff.1 hr
      obtain ⟨u, hrun, hv⟩ := unA_run (P := P) (w := w) hz (ev_VR he ha)
      exact same hrun hv
    · simp at hr
  case convert src dst' x =>
    split at hr
    · rename_i a ha
      obtain ⟨⟨z, h2⟩, hz, rfl⟩ := Option.map_eq_some_iff.1 hr
      obtain ⟨ρ', u, w', h1, h2, h3, h4⟩ := convA_run (P := P) hT H hz (ev_VR he ha)
      exact mem ⟨ρ', u, w', h1, h2, h3, h4⟩
    · simp at hr
  case makeFunc fn first cap =>
    cases fn <;> simp only at hr <;> try (simp at hr; done)
    case func f =>
      split at hr
      · rename_i h0
        obtain ⟨z, hz, rfl⟩ := Option.map_eq_some_iff.1 hr
        obtain ⟨l, hl, rfl⟩ := Option.map_eq_some_iff.1 hz
        have hv := evs_VR he hl
        refine same (s := Instr.makeFunc (.func f) (first.map A.eval) (cap.map A.eval)) (u := .func (.func f) #[] (cap.toList.map A.eval).toArray) ?_ (.func _ _ _ hv)
        have e1 : first.map A.eval = #[] := by
          have : first = #[] := Array.eq_empty_of_size_eq_zero h0
          rw [this]; simp
        have e2 : cap.map A.eval = (cap.toList.map A.eval).toArray := by apply Array.ext'; simp
        simp only [Instr.makeFunc, e1, e2, Sem.run_pure]
      · simp at hr
  case makeSlice t l c =>
    split at hr
    · rename_i el k n k' m hdd hn hm
      split at hr
      · rename_i hc
        obtain ⟨hok, c1, c2, c3, c4, hzl⟩ := hc
        simp at hr; subst hr
        obtain ⟨i, zz, hi, hz, hv, h1, hsz, hby⟩ := zero_VRs (P := P) (w0 := w0) (ρ := ρ) hT (okT_ne hok)
        have hzc : zz.cells.size = (T el).size := by rw [← hzl, hv.length]; simp
        have hrep := rep_VRs hv m.toNat (m.toNat * (T el).size) (by rw [hzc])
        obtain ⟨ρ', hx, hp, H'⟩ := H.pushCells hrep (rep_one h1 m.toNat) [] el (0, 0) (noFreeze_00 _)
        have vn := ev_VR he hn
        have vm := ev_VR he hm
        refine mem ⟨ρ', .slice (some ⟨w.heap.size, 0, none⟩) n.toNat m.toNat, _, ?_, hx, H', ?_⟩
        · generalize A.eval l = ul at vn
          generalize A.eval c = uc at vm
          cases vn
          cases vm
          have w1 : IntKind.i64.wrap n = n := wrap64_of (by omega) (by omega)
          have w2 : IntKind.i64.wrap m = m := wrap64_of (by omega) (by omega)
          have n1 : ¬ ((m < 0 ∨ 2 ^ 48 < ((T el).bytes : Int) * m) ∨ n < 0) := by omega
          have n2 : ¬ (m < n) := by omega
          by_cases h0 : m.toNat * (T el).size = 0
          · have r0 : ∀ f : Nat → Value, (Array.range 0).map f = #[] := fun f => by apply Array.eq_empty_of_size_eq_zero; simp
            simp [Instr.makeSlice, run_und (und_slice hT hdd), asInt, asIntOf, run_ti hi, run_size hi, hsz, hby, w1, w2, n1, n2, h0, newRow, r0]
            intro hk
            exact absurd hk (by omega)
          · simp [Instr.makeSlice, run_und (und_slice hT hdd), asInt, asIntOf, run_ti hi, run_size hi, run_zero hi hz, hsz, hby, w1, w2, n1, n2, h0, newRow]
            rw [if_neg (by omega)]
            congr 3
            apply Array.ext'
            simp
        · refine VR.slice h.size 0 n.toNat m.toNat (T el).size true _ m.toNat hp (by omega) (Nat.le_refl _) (fun _ => rfl) ?_
          simp
      · simp at hr
    · simp at hr
  case slice t x lo hi mx =>
    split at hr
    · rename_i a l h1 m ha hl hh hm
      split at hr
      · rename_i l' h1' m' hl' hh' hm'
        obtain ⟨z, hz, rfl⟩ := Option.map_eq_some_iff.1 hr
        obtain ⟨u, hrun, hv⟩ := sliceA_run (P := P) (w := w) hT hz (ev_VR he ha) (oi_of he hl hl') (oi_of he hh hh') (oi_of he hm hm')
        exact same hrun hv
      · simp at hr
    · simp at hr
  case fieldAddr s x f =>
    split at hr
    · rename_i fs p hdd hp
      split at hr
      · rename_i ft off c hf
        split at hr
        · simp at hr
        · rename_i hsz0
          split at hr
          · simp at hr
          · rename_i hne
            obtain ⟨d, hu, hd⟩ := und_of hT (t := s) (by rw [hdd]; simp)
            obtain ⟨fa, rfl, hfs⟩ := tdOf_struct (hd.trans hdd)
            obtain ⟨ti, _, _, hti, _, _, hts, _⟩ := hT.get (fun e => hne e)
            have hfa : ∃ fl : Field, fa[f]? = some fl ∧ fl.type = ft ∧ fl.offset = off := by
              rw [hfs] at hf
              simp at hf
              obtain ⟨fl, h1, h2, h3, _⟩ := hf
              exact ⟨fl, h1, h2, h3⟩
            obtain ⟨fl, hfl, rfl, rfl⟩ := hfa
            have hv := ev_VR he hp
            have key : ∀ (b o : Nat), A.eval x = .pointer (some ⟨b, o, none⟩) → (Instr.fieldAt s (A.eval x) f).run P w = .ok (.pointer (some ⟨b, o + fl.offset, none⟩)) w := by
              intro b o hxe
              have n1 : ¬ ti.size = 0 := by rw [hts]; exact hsz0
              simp [Instr.fieldAt, run_und hu, hfl, hxe, Instr.sureAddr, fieldPlace, run_size hti, n1, add_none]
            split at hr
            · simp at hr; subst hr
              generalize hxe : A.eval x = u at hv
              cases hv with
              | ptr _ _ p hpp => exact same (key _ _ hxe) (by rw [Nat.add_assoc]; exact .ptr _ _ p hpp)
            · simp at hr; subst hr
              generalize hxe : A.eval x = u at hv
              cases hv with
              | iptr _ _ b s' vs hvs hc => exact same (key _ _ hxe) (by rw [Nat.add_assoc]; exact .iptr _ _ b s' vs hvs hc)
            · simp at hr
      · simp at hr
    · simp at hr
  case field t x f =>
    split at hr
    · rename_i fs cs hdd hp
      split at hr
      · rename_i ft off c hf
        obtain ⟨z, hz, rfl⟩ := Option.map_eq_some_iff.1 hr
        obtain ⟨d, hu, hd⟩ := und_of hT (t := t) (by rw [hdd]; simp)
        obtain ⟨fa, rfl, hfs⟩ := tdOf_struct (hd.trans hdd)
        have hfa : ∃ fl : Field, fa[f]? = some fl ∧ fl.type = ft ∧ fl.offset = off := by
          rw [hfs] at hf
          simp at hf
          obtain ⟨fl, h1, h2, h3, _⟩ := hf
          exact ⟨fl, h1, h2, h3⟩
        obtain ⟨fl, hfl, rfl, rfl⟩ := hfa
        have hv := ev_VR he hp
        generalize hxe : A.eval x = u at hv
        cases hv with
        | agg _ vs hvs =>
          obtain ⟨u, hrun, hvr⟩ := partA_run (P := P) (w := w) hT hz hvs
          exact same (s := Instr.field t (A.eval x) f) (by simp [Instr.field, run_und hu, hfl, hxe, asAgg, hrun]) hvr
      · simp at hr
    · simp at hr
  case indexAddr t x ix =>
    split at hr
    · rename_i el i o len cap sz ex k n hdd hx hi
      split at hr
      · rename_i hc
        obtain ⟨hok, c1, c2, c3⟩ := hc
        simp at hr; subst hr
        obtain ⟨ti, _, _, hti, _, _, hts, _⟩ := hT.get (okT_ne hok)
        have hv := ev_VR he hx
        have vi := ev_VR he hi
        generalize hxe : A.eval x = u at hv
        generalize hie : A.eval ix = ui at vi
        cases vi
        cases hv with
        | sliceE => omega
        | slice _ _ _ _ _ _ p cap' hp h1 h2 h3 h4 =>
          refine same (s := Instr.indexAt t (A.eval x) (A.eval ix)) (u := .pointer (some ⟨p.r, p.s + o + n.toNat * sz, none⟩)) ?_ (by rw [Nat.add_assoc]; exact .ptr _ _ p hp)
          simp [Instr.indexAt, run_und (und_slice hT hdd), hxe, hie, asIntOf, c1, c2, run_size hti, hts, add_none, c3]
      · simp at hr
    · rename_i el row off len cap sz k n hdd hx hi
      split at hr
      · rename_i hc
        obtain ⟨hok, c1, c2, c3, c4⟩ := hc
        simp at hr; subst hr
        obtain ⟨ti, _, _, hti, _, _, hts, _⟩ := hT.get (okT_ne hok)
        have hv := ev_VR he hx
        have vi := ev_VR he hi
        generalize hxe : A.eval x = u at hv
        generalize hie : A.eval ix = ui at vi
        cases vi
        cases hv with
        | isliceE => omega
        | islice _ _ _ _ _ b s' vs hvs hcell h1 =>
          refine same (s := Instr.indexAt t (A.eval x) (A.eval ix)) (u := .pointer (some ⟨b, s' + off + n.toNat * sz, none⟩)) ?_ (by rw [Nat.add_assoc]; exact .iptr _ _ b s' vs hvs hcell)
          simp [Instr.indexAt, run_und (und_slice hT hdd), hxe, hie, asIntOf, c1, c2, run_size hti, hts, add_none, c4]
      · simp at hr
    · rename_i len el i o k n hdd hx hi
      split at hr
      · rename_i hc
        obtain ⟨hok, c1, c2⟩ := hc
        simp at hr; subst hr
        obtain ⟨ti, _, _, hti, _, _, hts, _⟩ := hT.get (okT_ne hok)
        obtain ⟨d, hu, hd⟩ := und_of hT (t := t) (by rw [hdd]; simp)
        have hda := tdOf_array (hd.trans hdd)
        subst hda
        have hv := ev_VR he hx
        have vi := ev_VR he hi
        generalize hxe : A.eval x = u at hv
        generalize hie : A.eval ix = ui at vi
        cases vi
        cases hv with
        | ptr _ _ p hp =>
          refine same (s := Instr.indexAt t (A.eval x) (A.eval ix)) (u := .pointer (some ⟨p.r, p.s + o + n.toNat * (T el).size, none⟩)) ?_ (by rw [Nat.add_assoc]; exact .ptr _ _ p hp)
          simp [Instr.indexAt, run_und hu, hxe, hie, asIntOf, c1, c2, run_size hti, hts, add_none, Instr.sureAddr]
      · simp at hr
    · simp at hr
  case index t x ix =>
    split at hr
    · rename_i s k n hdd hx hi
      split at hr
      · rename_i c1
        split at hr
        · rename_i b hb
          simp at hr; subst hr
          have hv := ev_VR he hx
          have vi := ev_VR he hi
          generalize hxe : A.eval x = u at hv
          generalize hie : A.eval ix = ui at vi
          cases vi
          cases hv
          have hg : (⟨s.toArray⟩ : ByteArray)[n.toNat]? = some b := by
            have hlt : n.toNat < s.length := (List.getElem?_eq_some_iff.1 hb).1
            have hlt' : n.toNat < (⟨s.toArray⟩ : ByteArray).size := by simpa [ByteArray.size] using hlt
            have h3 := (List.getElem?_eq_some_iff.1 hb).2
            have h4 := getElem?_pos (⟨s.toArray⟩ : ByteArray) n.toNat hlt'
            rw [h4, ← h3]
            rfl
          exact same (s := Instr.index t (A.eval x) (A.eval ix)) (by simp [Instr.index, run_und (und_string hT hdd), hxe, hie, asIntOf, c1, hg]) (.int _ _)
        · simp at hr
      · simp at hr
    · rename_i len el cs k n hdd hx hi
      split at hr
      · rename_i hc
        obtain ⟨hok, c1, c2⟩ := hc
        obtain ⟨z, hz, rfl⟩ := Option.map_eq_some_iff.1 hr
        obtain ⟨ti, _, _, hti, _, _, hts, _⟩ := hT.get (okT_ne hok)
        obtain ⟨d, hu, hd⟩ := und_of hT (t := t) (by rw [hdd]; simp)
        have hda := tdOf_array (hd.trans hdd)
        subst hda
        have hv := ev_VR he hx
        have vi := ev_VR he hi
        generalize hxe : A.eval x = u at hv
        generalize hie : A.eval ix = ui at vi
        cases vi
        cases hv with
        | agg _ vs hvs =>
          obtain ⟨u, hrun, hvr⟩ := partA_run (P := P) (w := w) hT hz hvs
          exact same (s := Instr.index t (A.eval x) (A.eval ix)) (by simp [Instr.index, run_und hu, hxe, hie, asIntOf, c1, c2, run_size hti, hts, hrun]) hvr
      · simp at hr
    · simp at hr
  case extract t ix =>
    split at hr
    · rename_i vs hx
      obtain ⟨z, hz, rfl⟩ := Option.map_eq_some_iff.1 hr
      have hv := ev_VR he hx
      generalize hxe : A.eval t = u at hv
      cases hv with
      | tuple _ us hus =>
        obtain ⟨u, hu, hvr⟩ := hus.get hz
        exact same (s := Instr.extract (A.eval t) ix) (by simp [Instr.extract, hxe, hu]) hvr
    · simp at hr
  case call c =>
    obtain ⟨callee, args, ats⟩ := c
    have e1 : (args.map A.eval) = (args.toList.map A.eval).toArray := by apply Array.ext'; simp
    cases callee with
    | invoke r m => simp at hr
    | builtin b =>
      simp only at hr
      cases has : evs e args.toList with
      | none => simp [has] at hr
      | some as =>
        rw [has] at hr
        have hvs := evs_VR he has
        obtain ⟨⟨z, h2⟩, hz, rfl⟩ := Option.map_eq_some_iff.1 hr
        obtain ⟨ρ', u, w', h1, h2', h3, h4⟩ := builtinA_run (P := P) (ty := type) hT H hz hvs
        refine ⟨ρ', u, w', .value u, ?_, .inl rfl, h2', h3, h4⟩
        simp only [execOp, resolve, Sem.run_bind, Sem.run_pure, Result.andThen_ok, invoke, e1]
        simpa using h1 _
    | value f =>
      simp only at hr
      cases has : evs e args.toList with
      | none => simp [has] at hr
      | some as =>
        rw [has] at hr
        have hvs := evs_VR he has
        simp only at hr
        split at hr
        · rename_i g cap hf
          simp at hr; subst hr
          have hv := ev_VR he hf
          generalize hxe : A.eval f = u at hv
          cases hv with
          | func _ _ cv hcv =>
            refine ⟨args.toList.map A.eval ++ cv, hvs.append hcv, ?_⟩
            intro fn c hfn hbody
            have hname := hF g fn hfn
            simp only [execOp, resolve, hxe, Deferred.ofValue, Sem.run_bind, Sem.run_pure, Result.andThen_ok, invoke, callFunc, run_program, hfn, hname, hbody, e1]
            simp
        · rename_i l hf
          simp at hr; subst hr
          have hv := ev_VR he hf
          generalize hxe : A.eval f = u at hv
          cases hv with
          | yield _ p hp =>
            refine ⟨args.toList.map A.eval, p, hp, hvs, ?_⟩
            simp only [execOp, resolve, hxe, Deferred.ofValue, Sem.run_bind, Sem.run_pure, Result.andThen_ok, invoke, e1]
            simp
        · simp at hr
end ops
end Go.Abs
