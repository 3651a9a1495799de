/- The abstract machine's run of code is the model's walk of it. -/
import Derived.Test.YtanbckdhlmhdeaaAbsCtl
set_option linter.unusedSimpArgs false
set_option linter.unusedVariables false
namespace Go.Abs
open Go.RowKit
section ctl
variable {P : Program} {T : Tys} {w0 : World}

theorem run_enterLoop_inner {w : World} {fn : FuncId} {tmps : Array Value} {ps : Array Tmp} {assign body : Code} {r0 : Nat} {L : Loop} (h : w.heap[r0]? = some (.loop L)) :
    (Instr.enterLoop fn tmps ps assign body (some r0)).run P w = .ok (w.heap.size, []) (w.alloc (.loop { state := .ready, pending := none, fn, tmps, params := ps, assign, body, defers := L.defers })) := by
  simp [Instr.enterLoop, run_getLoop h]

theorem WR.pushLoop {ρ : Rho} {h : AH} {w : World} (H : WR w0 ρ h w) {tm : Tm} {ps : Array Nat} {assign body : Code} {A : Act} (ht : TmR w0 ρ tm A.tmps) (fn : FuncId) (df : Nat) :
    ∃ ρ', Ext ρ ρ' ∧ ρ' h.size = some ⟨w.heap.size, 0, 0⟩ ∧ WR w0 ρ' (h.push (.loop .ready none tm ps.toList assign body)) (w.alloc (.loop { state := .ready, pending := none, fn, tmps := A.tmps, params := ps, assign, body, defers := df })) := by
  have hx : Ext ρ (ρ.add h.size ⟨w.heap.size, 0, 0⟩) := Rho.ext_add (H.fresh _ (Nat.le_refl _)).1
  refine ⟨_, hx, Rho.add_same _ _ _, (H.push _ _ 0 ?_).1⟩
  exact .loop _ _ _ _ _ _ _ H.below.size _ (World.alloc_heap_new _ _) rfl rfl (ht.ext hx) (by simp) rfl rfl
theorem WR.pushDefs {ρ : Rho} {h : AH} {w : World} (H : WR w0 ρ h w) : ∃ ρ', Ext ρ ρ' ∧ ρ' h.size = some ⟨w.heap.size, 0, 0⟩ ∧ WR w0 ρ' (h.push (.defs false)) (w.alloc (.deferred (some []))) := by
  refine ⟨_, Rho.ext_add (H.fresh _ (Nat.le_refl _)).1, Rho.add_same _ _ _, (H.push _ _ 0 ?_).1⟩
  exact .defs _ _ H.below.size (World.alloc_heap_new _ _)
theorem WR.loopAt {ρ : Rho} {h : AH} {w : World} (H : WR w0 ρ h w) {i : Nat} {st : LoopState} {pe : Option Code} {tm : Tm} {ps : List Nat} {as bo : Code} (hi : h.get i = some (.loop st pe tm ps as bo)) :
    ∃ p L, ρ i = some p ∧ w0.heap.size ≤ p.r ∧ w.heap[p.r]? = some (.loop L) ∧ L.state = st ∧ L.pending = pe ∧ TmR w0 ρ tm L.tmps ∧ L.params = ps.toArray ∧ L.assign = as ∧ L.body = bo := by
  have := H.obj i _ hi
  generalize hx : ρ i = x at this
  cases this with
  | loop _ _ _ _ _ _ p hB L hb h1 h2 h3 h4 h5 h6 => exact ⟨p, L, rfl, hB, hb, h1, h2, h3, h4, h5, h6⟩
/-- A record, or a block for deferred calls, becomes another; or is looked at no more. -/
theorem WR.setObj {ρ : Rho} {h : AH} {w : World} (H : WR w0 ρ h w) {i : Nat} {o : AO} {p : Pl} (hi : h.get i = some o) (hl : o.live = true) (hp : ρ i = some p) (o' : AO) (b : Obj) (ho : OR w0 ρ (w.putObj p.r b) o' (some p)) :
    WR w0 ρ (h.set i o') (w.putObj p.r b) :=
  H.set hi hl hp (putObj_below _) (fun _ hk => World.putObj_heap_other hk) ho

theorem run_sound {S : Sys} (hT : TOk P T) (hF : FOk P) (hS : SysOk P w0 S) (hD : DrawOk P T w0 S) (fuel : Nat) : ∀ (c : Code) (rd rr : Option Nat) (n : Nat) (ρ : Rho) (s : St) (A : Act) (w : World) (e : Ex) (s' : St) (Q : Exit → Act → World → Prop),
    runCode T S rd fuel c s = some (e, s') → RdR ρ rd rr → StR w0 ρ s A w → Out w0 ρ e s' Q → c.wpIn (FW rr) n P Q A w := by
  intro c
  induction c with
  | skip =>
    intro rd rr n ρ s A w e s' Q hr _ hs hQ
    simp [runCode] at hr; obtain ⟨rfl, rfl⟩ := hr
    exact wpIn_skip (hQ ρ A w (Ext.refl _) hs)
  | label l =>
    intro rd rr n ρ s A w e s' Q hr _ hs hQ
    simp [runCode] at hr; obtain ⟨rfl, rfl⟩ := hr
    exact wpIn_label (hQ ρ A w (Ext.refl _) hs)
  | ret =>
    intro rd rr n ρ s A w e s' Q hr _ hs hQ
    simp [runCode] at hr; obtain ⟨rfl, rfl⟩ := hr
    exact wpIn_ret (hQ ρ A w (Ext.refl _) hs)
  | exit id =>
    intro rd rr n ρ s A w e s' Q hr _ hs hQ
    simp [runCode] at hr; obtain ⟨rfl, rfl⟩ := hr
    exact wpIn_exit (hQ ρ A w (Ext.refl _) hs)
  | goto l =>
    intro rd rr n ρ s A w e s' Q hr _ hs hQ
    simp [runCode] at hr; obtain ⟨rfl, rfl⟩ := hr
    exact wpIn_goto (hQ ρ A w (Ext.refl _) hs)
  | refuse why =>
    intro rd rr n ρ s A w e s' Q hr
    simp [runCode] at hr
  | seq a b iha ihb =>
    intro rd rr n ρ s A w e s' Q hr hrd hs hQ
    simp only [runCode] at hr
    refine wpIn_seq ?_
    split at hr
    · rename_i s1 ha
      refine iha rd rr n ρ s A w .normal s1 _ ha hrd hs ?_
      intro ρ1 A1 w1 hx1 hs1
      exact ihb rd rr n ρ1 s1 A1 w1 e s' Q hr (hrd.ext hx1) hs1 (hQ.ext hx1)
    · rename_i hne
      refine iha rd rr n ρ s A w e s' _ hr hrd hs ?_
      intro ρ1 A1 w1 hx1 hs1
      have := hQ ρ1 A1 w1 hx1 hs1
      cases e with
      | normal => exact absurd hr (hne s')
      | _ => exact this
  | cond c a b iha ihb =>
    intro rd rr n ρ s A w e s' Q hr hrd hs hQ
    simp only [runCode] at hr
    split at hr
    · rename_i t ht
      have hv := ev_VR (A := A) hs.tm.2 ht
      generalize hc : A.eval c = u at hv
      cases hv
      refine wpIn_cond hc ?_
      cases t
      · exact ihb rd rr n ρ s A w e s' Q hr hrd hs hQ
      · exact iha rd rr n ρ s A w e s' Q hr hrd hs hQ
    · simp at hr
  | block id b ih =>
    intro rd rr n ρ s A w e s' Q hr hrd hs hQ
    simp only [runCode] at hr
    refine wpIn_block ?_
    split at hr
    · rename_i id' s1 hb
      refine ih rd rr n ρ s A w (.exit id') s1 _ hb hrd hs ?_
      intro ρ1 A1 w1 hx1 hs1
      simp only [Ex.toExit, Exit.inBlock]
      split at hr
      · rename_i hid
        simp at hr; obtain ⟨rfl, rfl⟩ := hr
        rw [if_pos hid]
        exact hQ ρ1 A1 w1 hx1 hs1
      · rename_i hid
        simp at hr; obtain ⟨rfl, rfl⟩ := hr
        rw [if_neg hid]
        exact hQ ρ1 A1 w1 hx1 hs1
    · rename_i hne
      refine ih rd rr n ρ s A w e s' _ hr hrd hs ?_
      intro ρ1 A1 w1 hx1 hs1
      have := hQ ρ1 A1 w1 hx1 hs1
      cases e with
      | exit id' => exact absurd hr (hne id' s')
      | _ => exact this
  | scope b ih =>
    intro rd rr n ρ s A w e s' Q hr hrd hs hQ
    simp only [runCode] at hr
    refine wpIn_scope ?_
    split at hr
    · simp at hr
    · rename_i hne
      refine ih rd rr n ρ s A w e s' _ hr hrd hs ?_
      intro ρ1 A1 w1 hx1 hs1
      refine ⟨?_, hQ ρ1 A1 w1 hx1 hs1⟩
      intro l
      cases e with
      | goto l' => exact absurd hr (hne l' s')
      | _ => simp [Ex.toExit]
  | loop b ih =>
    intro rd rr n ρ s A w e s' Q hr hrd hs hQ
    simp only [runCode] at hr
    intro fb k cs hro hb hroom
    obtain ⟨E, a', w', hq, harr⟩ := loop_wp (P := P) (rd := rr) (n := n) (c := b) (runCode T S rd fuel b) ρ (fun s1 e1 s2 ρ1 A1 w1 Q' h1 hx1 hs1 hQ1 => ih rd rr n ρ1 s1 A1 w1 e1 s2 Q' h1 (hrd.ext hx1) hs1 hQ1) hQ fuel s ρ A w hr (Ext.refl _) hs fb k cs hro hb hroom
    exact ⟨E, a', w', hq, .of_steps (.one (fenced_calm hb hroom rfl) stepR_loop) harr⟩
  | region id ops draw =>
    intro rd rr n ρ s A w e s' Q hr hrd hs hQ
    simp only [runCode] at hr
    have fin : ∀ tm h, e = .normal → s' = { s with tm, h } → ∀ ρ' A' w', Ext ρ ρ' → WR w0 ρ' h w' → TmR w0 ρ' tm A'.tmps → A'.defers = A.defers → Q .normal A' w' := by
      intro tm h he hs2 ρ' A' w' hx H' ht hd
      subst he; subst hs2
      exact hQ ρ' A' w' hx ⟨H', ht, by rw [hd]; exact hs.marks.ext hx⟩
    cases draw with
    | true =>
      simp only [if_true] at hr
      split at hr
      · rename_i tm h hreg
        simp at hr
        exact hD rr n id ops Q ρ s.h h w s.tm tm A hreg hs.h hs.tm (fin tm h hr.1.symm hr.2.symm)
      · simp at hr
    | false =>
      simp only [Bool.false_eq_true, if_false] at hr
      split at hr
      · rename_i tm h hreg
        simp at hr
        exact wpIn_region (regRun_wp hT hF hS _ hreg hs.h hs.tm (fin tm h hr.1.symm hr.2.symm))
      · simp at hr
  | rangeFunc f ps assign body iha ihb =>
    intro rd rr n ρ s A w e s' Q hr hrd hs hQ
    simp only [runCode] at hr
    split at hr
    · rename_i g cap hf
      have hfv := ev_VR (A := A) hs.tm.2 hf
      split at hr
      · simp at hr
      · rename_i mk h0 hpre
        split at hr
        · simp at hr
        · rename_i v2 h2 hcall
          split at hr
          · rename_i st pending tm' ps' as' bo' hl2
            split at hr
            · simp at hr
            · rename_i hbusy
              refine wpIn_rangeFunc ?_
              intro fn _
              -- the record is laid
              have enter : ∃ (l : Nat) (mark : List Deferred) (w1 : World) (ρ1 : Rho), (Instr.enterLoop fn A.tmps ps assign body rr).run P w = .ok (l, mark) w1 ∧ Ext ρ ρ1 ∧ ρ1 h0.size = some ⟨l, 0, 0⟩ ∧
                  WR w0 ρ1 (h0.push (.loop .ready none s.tm ps.toList assign body)) w1 ∧ MarksR ρ1 mk mark := by
                cases rd with
                | none =>
                  simp only [Option.some.injEq, Prod.mk.injEq] at hpre
                  obtain ⟨rfl, rfl⟩ := hpre
                  cases rr with
                  | some r => exact hrd.elim
                  | none =>
                    obtain ⟨ρa, hxa, hpa, Ha⟩ := hs.h.pushDefs
                    obtain ⟨ρb, hxb, hpb, Hb⟩ := Ha.pushLoop (ps := ps) (assign := assign) (body := body) (hs.tm.ext hxa) fn w.heap.size
                    refine ⟨_, _, _, ρb, run_enterLoop_outer _ _ _ _ _, hxa.trans hxb, ?_, Hb, ?_⟩
                    · rw [hpb]; simp
                    · exact ⟨⟨_, hxb _ _ hpa, rfl⟩, trivial⟩
                | some l0 =>
                  simp only at hpre
                  split at hpre
                  · rename_i hl0
                    simp only [Option.some.injEq, Prod.mk.injEq] at hpre
                    obtain ⟨rfl, rfl⟩ := hpre
                    cases rr with
                    | none => exact hrd.elim
                    | some r =>
                      obtain ⟨p, hp, rfl⟩ := hrd
                      obtain ⟨p', L, hp', hB, hb, _⟩ := hs.h.loopAt hl0
                      rw [hp] at hp'; cases hp'
                      obtain ⟨ρb, hxb, hpb, Hb⟩ := hs.h.pushLoop (ps := ps) (assign := assign) (body := body) hs.tm fn L.defers
                      exact ⟨_, _, _, ρb, run_enterLoop_inner hb, hxb, hpb, Hb, trivial⟩
                  · simp at hpre
              obtain ⟨l, mark, w1, ρ1, hent, hx1, hp1, H1, hm1⟩ := enter
              obtain ⟨fnd, c', hfn, hbody⟩ := hS.body _ _ _ _ _ hcall
              generalize hfe : A.eval f = fv at hfv
              cases hfv with
              | func _ _ cv hcv =>
                have hargs : VRs w0 ρ1 (.yield h0.size :: cap) (.func (.yield l) #[] #[] :: cv) := .cons _ _ _ _ (.yield _ ⟨l, 0, 0⟩ hp1) (hcv.ext hx1)
                refine ⟨l, mark, w1, { target := .fn (.func g) cv.toArray, args := #[.func (.yield l) #[] #[]] }, w1, g, #[.func (.yield l) #[] #[]] ++ cv.toArray, w1, hent, ?_, fun _ _ => trivial, ?_, FW_depth rr n, ?_⟩
                · simp only [resolve, rangeCall, hfe]
                  simp [Deferred.ofValue, Act.eval]
                · have hname := hF g fnd hfn
                  simp only [invoke, callFunc, Sem.run_bind, run_program, Result.andThen_ok, hfn, hname, hbody]
                  simp
                · have hcc := hS.call _ _ _ _ _ hcall ρ1 w1 _ (n - 1) H1 hargs
                  have e1 : (Value.func (.yield l) #[] #[] :: cv).toArray = #[.func (.yield l) #[] #[]] ++ cv.toArray := by simp
                  rw [e1] at hcc
                  refine (calls_rd hcc).mono ?_
                  rintro E w3 ⟨ρ3, u3, rfl, hx3, H3, hv3⟩
                  obtain ⟨p3, L, hp3, hB3, hb3, hst, hpe, _⟩ := H3.loopAt hl2
                  have e3 : p3 = ⟨l, 0, 0⟩ := by have := hx3 _ _ hp1; rw [hp3] at this; cases this; rfl
                  subst e3
                  refine ⟨L.pending, _, run_endLoop hb3 (by rw [hst]; exact hbusy), ?_⟩
                  have H4 := H3.setObj hl2 rfl hp3 .dead (.loop { L with state := .exhausted }) (.dead _)
                  have hres : ∀ ex, s' = { tm := s.tm, marks := mk ++ s.marks, h := h2.set h0.size .dead } → e = ex → Q ex.toExit { A with defers := mark ++ A.defers } (w3.putObj l (.loop { L with state := .exhausted })) := by
                    intro ex hs2 he2
                    subst he2
                    refine hQ ρ3 _ _ (hx1.trans hx3) ?_
                    rw [hs2]
                    exact ⟨H4, hs.tm.ext (hx1.trans hx3), (hm1.ext hx3).append (hs.marks.ext (hx1.trans hx3))⟩
                  generalize w3.putObj l (.loop { L with state := .exhausted }) = w4 at hres H4 ⊢
                  rw [hpe]
                  split at hr
                  · simp at hr
                    exact hres .normal hr.2.symm hr.1.symm
                  · simp at hr
                    exact wpIn_ret (hres .ret hr.2.symm hr.1.symm)
                  · rename_i id
                    simp at hr
                    exact wpIn_exit (hres (.exit id) hr.2.symm hr.1.symm)
                  · rename_i t
                    simp at hr
                    exact wpIn_goto (hres (.goto t) hr.2.symm hr.1.symm)
                  · simp at hr
          · simp at hr
    · simp at hr
end ctl
end Go.Abs
