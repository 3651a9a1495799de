/- Calls and rounds of the abstract machine are the model's. -/
import Derived.Test.YtanbckdhlmhdeaaAbsCtl2
set_option linter.unusedSimpArgs false
set_option linter.unusedVariables false
namespace Go.Abs
open Go.RowKit
section call
variable {P : Program} {T : Tys} {w0 : World}

theorem fillFrom_size (t : Tm) : ∀ (i : Nat) (l : List AV), (t.fillFrom i l).size = t.size := by
  intro i l
  induction l generalizing t i with
  | nil => rfl
  | cons v r ih => simp [Tm.fillFrom, ih]
theorem fillFrom_get (t : Tm) : ∀ (i : Nat) (l : List AV) (j : Nat), (t.fillFrom i l).get j = if i ≤ j ∧ j < i + l.length then (l[j - i]?).getD undefA else t.get j := by
  intro i l
  induction l generalizing t i with
  | nil => intro j; simp [Tm.fillFrom]; intro h1 h2; omega
  | cons v r ih =>
    intro j
    simp only [Tm.fillFrom]
    rw [ih, Tm.get_set]
    by_cases h : j = i
    · subst h
      rw [if_neg (by omega), if_pos rfl, if_pos (by simp)]
      simp
    · by_cases h2 : i + 1 ≤ j ∧ j < i + 1 + r.length
      · rw [if_pos h2, if_pos (by simp; omega)]
        have e : j - i = (j - (i + 1)) + 1 := by omega
        rw [e, List.getElem?_cons_succ]
      · rw [if_neg h2, if_neg h, if_neg (by simp; omega)]
theorem enter_TmR {ρ : Rho} {args : List AV} {us : List Value} (h : VRs w0 ρ args us) (n : Nat) : TmR w0 ρ (Tm.enter args n) (us.toArray ++ Array.replicate (n - us.toArray.size) undef) := by
  have hl := h.length
  refine ⟨by simp [Tm.enter, fillFrom_size, hl]; omega, fun i => ?_⟩
  unfold Tm.enter
  rw [fillFrom_get]
  by_cases hi : i < args.length
  · rw [if_pos (by omega)]
    obtain ⟨u, hu, hv⟩ := h.get (List.getElem?_eq_getElem hi)
    have e1 : (us.toArray ++ Array.replicate (n - us.toArray.size) undef).getD i undef = u := by
      have hlt : i < us.length := by omega
      have := (List.getElem?_eq_some_iff.1 hu).2
      simp [Array.getD, Array.getElem_append, hlt, this]
      omega
    rw [e1]
    simp [List.getElem?_eq_getElem hi]
    exact hv
  · rw [if_neg (by omega)]
    have e1 : (us.toArray ++ Array.replicate (n - us.toArray.size) undef).getD i undef = undef := by
      simp only [Array.getD_eq_getD_getElem?]
      by_cases h2 : i < us.length + (n - us.length)
      · rw [Array.getElem?_append_right (by simp; omega)]
        simp
        rw [Array.getElem?_replicate]
        split <;> rfl
      · rw [Array.getElem?_eq_none (by simp; omega)]
        rfl
    rw [e1]
    have e2 : Tm.get { size := max args.length n, tr := .leaf } i = undefA := rfl
    rw [e2]
    exact undef_VR

/-- A result variable, read. -/
def resF (ts : Array Value) : ResultVar → Sem Value
  | .tmp t => pure (ts.getD t undef)
  | .cell a t => do loadVar t (← asAddr (ts.getD a undef))
theorem results_eq (fn : Func) (ts : Array Value) : results fn ts = (do let vs ← fn.results.mapM (resF ts); pure (if h : vs.size = 1 then vs[0] else .tuple vs)) := by
  unfold results
  have : (fun r : ResultVar => (match r with | .tmp t => pure (ts.getD t undef) | .cell a t => do loadVar t (← asAddr (ts.getD a undef)) : Sem Value)) = resF ts := by
    funext r; cases r <;> rfl
  rw [← this]
  rfl
theorem resultOf_run {ρ : Rho} {h : AH} {w : World} {tm : Tm} {ts : Array Value} {r : ResultVar} {v : AV} (hT : TOk P T) (H : WR w0 ρ h w) (ht : TmR w0 ρ tm ts) (hr : resultOf T tm h r = some v) :
    ∃ u, (resF ts r).run P w = .ok u w ∧ VR w0 ρ v u := by
  cases r with
  | tmp t => simp [resultOf] at hr; subst hr; exact ⟨_, rfl, ht.2 t⟩
  | cell a t =>
    simp only [resultOf] at hr
    obtain ⟨u, hrun, hv⟩ := loadA_run (P := P) hT H hr (ht.2 a)
    refine ⟨u, ?_, hv⟩
    have hx := ht.2 a
    simp only [resF]
    generalize tm.get a = x at hr hx
    generalize ts.getD a undef = y at hx hrun ⊢
    have : ∃ ad, y = .pointer (some ad) := by
      unfold loadA at hr
      simp only at hr
      split at hr
      · simp at hr
      · split at hr
        · split at hr
          · cases hx; exact ⟨_, rfl⟩
          · cases hx; exact ⟨_, rfl⟩
          · simp at hr
        · split at hr
          · cases hx; exact ⟨_, rfl⟩
          · cases hx; exact ⟨_, rfl⟩
          · simp at hr
    obtain ⟨ad, rfl⟩ := this
    exact hrun
theorem resultsOf_run {ρ : Rho} {h : AH} {w : World} {tm : Tm} {ts : Array Value} (hT : TOk P T) (H : WR w0 ρ h w) (ht : TmR w0 ρ tm ts) : ∀ (rs : List ResultVar) (vs : List AV), resultsOf T tm h rs = some vs →
    ∃ us, (rs.mapM (resF ts)).run P w = .ok us w ∧ VRs w0 ρ vs us
  | [], vs, hr => by simp [resultsOf] at hr; subst hr; exact ⟨[], by simp [List.mapM_nil], .nil⟩
  | r :: rs, vs, hr => by
    simp only [resultsOf] at hr
    split at hr
    · rename_i v l hv hl
      simp at hr; subst hr
      obtain ⟨u, h1, h2⟩ := resultOf_run (P := P) hT H ht hv
      obtain ⟨us, h3, h4⟩ := resultsOf_run hT H ht rs l hl
      refine ⟨u :: us, ?_, .cons _ _ _ _ h2 h4⟩
      rw [List.mapM_cons]
      simp only [Sem.run_bind, h1, Result.andThen_ok, h3, Sem.run_pure]
    · simp at hr
theorem results_run {ρ : Rho} {h : AH} {w : World} {tm : Tm} {ts : Array Value} {fn : Func} {vs : List AV} (hT : TOk P T) (H : WR w0 ρ h w) (ht : TmR w0 ρ tm ts) (hr : resultsOf T tm h fn.results.toList = some vs) :
    ∃ u, (results fn ts).run P w = .ok u w ∧ VR w0 ρ (packed vs) u := by
  obtain ⟨us, h1, h2⟩ := resultsOf_run (P := P) hT H ht _ _ hr
  have e : (results fn ts).run P w = .ok (if h : us.toArray.size = 1 then us.toArray[0] else .tuple us.toArray) w := by
    rw [results_eq, Array.mapM_eq_mapM_toList]
    simp only [Sem.run_bind, Sem.run_map, h1, Result.andThen_ok, Sem.run_pure]
  refine ⟨_, e, ?_⟩
  cases h2 with
  | nil => exact .tuple [] [] .nil
  | cons a v l vs hv hs =>
    cases hs with
    | nil => simpa [packed] using hv
    | cons b u l2 vs2 hu hs2 =>
      have hne : ¬ (v :: u :: vs2).toArray.size = 1 := by simp
      rw [dif_neg hne]
      exact .tuple _ _ (.cons _ _ _ _ hv (.cons _ _ _ _ hu hs2))

theorem leave_run {rs : List ResultVar} {fn : Func} (hrs : rs = fn.results.toList) {n : Nat} (hT : TOk P T) {v : AV} {h' : AH} {ρ0 : Rho} : ∀ (m : List Nat) {ρ : Rho} {h h2 : AH} {w : World} {tm : Tm} {ts : Array Value} {ds : List Deferred} {vs : List AV},
    takeMarks h m = some h2 → resultsOf T tm h2 rs = some vs → v = packed vs → h' = h2 → Ext ρ0 ρ → WR w0 ρ h w → TmR w0 ρ tm ts → MarksR ρ m ds → LeavesInM (FW none) n P fn ts (Ret w0 ρ0 v h') ds .returning w
  | [], ρ, h, h2, w, tm, ts, ds, vs, hm, hr, hv, hh, hx, H, ht, hmr => by
    simp [takeMarks] at hm; subst hm
    cases ds with
    | cons d ds => exact hmr.elim
    | nil =>
      subst hrs
      obtain ⟨u, h1, h2⟩ := results_run (P := P) hT H ht hr
      exact ⟨u, h1, ρ, u, rfl, hx, by rw [hh]; exact H, by rw [hv]; exact h2⟩
  | i :: m, ρ, h, h2, w, tm, ts, ds, vs, hm, hr, hv, hh, hx, H, ht, hmr => by
    cases ds with
    | nil => exact hmr.elim
    | cons d ds =>
      obtain ⟨⟨p, hp, rfl⟩, hmr⟩ := hmr
      simp only [takeMarks] at hm
      split at hm
      · rename_i hi
        have ho := H.obj i _ hi
        rw [hp] at ho
        cases ho with
        | defs _ _ hB hb =>
          simp only [Bool.false_eq_true, if_false] at hb
          refine ⟨by simp, .inl ⟨p.r, _, rfl, run_takeDeferred hb, ?_⟩⟩
          exact leave_run hrs hT m hm hr hv hh hx (H.setObj hi rfl hp .dead _ (.dead _)) ht hmr
      · simp at hm

theorem setAll_TmR {ρ : Rho} : ∀ {ps : List Nat} {vs : List AV} {us : List Value} {tm tm' : Tm} {ts : Array Value}, setAll tm ps vs = some tm' → VRs w0 ρ vs us → TmR w0 ρ tm ts →
    TmR w0 ρ tm' ((ps.zip us).foldl (fun t (p : Nat × Value) => t.setIfInBounds p.1 p.2) ts) ∧ us.length = ps.length
  | [], [], us, tm, tm', ts, hr, hv, ht => by simp [setAll] at hr; subst hr; cases hv; exact ⟨ht, rfl⟩
  | [], v :: vs, us, tm, tm', ts, hr, hv, ht => by simp [setAll] at hr
  | p :: ps, [], us, tm, tm', ts, hr, hv, ht => by simp [setAll] at hr
  | p :: ps, v :: vs, us, tm, tm', ts, hr, hv, ht => by
    simp only [setAll] at hr
    split at hr
    · rename_i hlt
      cases hv with
      | cons _ u _ us hv hvs =>
        obtain ⟨h1, h2⟩ := setAll_TmR hr hvs (ht.set hlt hv)
        exact ⟨by simpa using h1, by simp [h2]⟩
    · simp at hr

/-- **THE ABSTRACT MACHINE's CALLS AND ROUNDS ARE THE MODEL's.** -/
theorem sys_ok (hT : TOk P T) (hF : FOk P) (hD : ∀ S, SysOk P w0 S → DrawOk P T w0 S) : ∀ n, SysOk P w0 ⟨callA P T n, yieldA P T n⟩ := by
  intro n
  induction n with
  | zero => exact ⟨fun f args h v h' hr => by simp [callA] at hr, fun f args h v h' hr => by simp [callA] at hr, fun l args h v h' hr => by simp [yieldA] at hr⟩
  | succ n ih =>
    have hDr := hD _ ih
    refine ⟨?_, ?_, ?_⟩
    · intro f args h v h' hr
      simp only [callA] at hr
      split at hr
      · simp at hr
      · rename_i fn hfn
        split at hr
        · simp at hr
        · rename_i c hc
          exact ⟨fn, c, hfn, hc⟩
    · intro f args h v h' hr ρ w us k H hv
      simp only [callA] at hr
      split at hr
      · simp at hr
      · rename_i fn hfn
        split at hr
        · simp at hr
        · rename_i c hc
          refine callsIn_of_wp_marks (F := FW none) hfn hc trivial ?_ rfl
          have start : StR w0 ρ ⟨Tm.enter args fn.ntmps, [], h⟩ { tmps := us.toArray ++ Array.replicate (fn.ntmps - us.toArray.size) undef, defers := [] } w := ⟨H, enter_TmR hv _, trivial⟩
          have fin : ∀ (s : St), leave T fn.results.toList s = some (v, h') → ∀ ρ' A' w', Ext ρ ρ' → StR w0 ρ' s A' w' → LeavesInM (FW none) k P fn A'.tmps (Ret w0 ρ v h') A'.defers .returning w' := by
            intro s hl ρ' A' w' hx hs
            unfold leave at hl
            split at hl
            · simp at hl
            · rename_i h2 hm
              obtain ⟨vs, hvs, he⟩ := Option.map_eq_some_iff.1 hl
              simp at he
              exact leave_run rfl hT s.marks hm hvs he.1.symm he.2.symm hx hs.h hs.tm hs.marks
          split at hr
          · rename_i s hs
            exact run_sound hT hF ih hDr n c none none k ρ _ _ w _ _ _ hs trivial start fun ρ' A' w' hx hs' => fin s hr ρ' A' w' hx hs'
          · rename_i s hs
            exact run_sound hT hF ih hDr n c none none k ρ _ _ w _ _ _ hs trivial start fun ρ' A' w' hx hs' => fin s hr ρ' A' w' hx hs'
          · simp at hr
    · intro l args h v h' hr ρ w us p k hp H hv
      simp only [yieldA] at hr
      split at hr
      · rename_i tm ps as bo hl
        split at hr
        · simp at hr
        · rename_i tm1 hset
          obtain ⟨p', L, hp', hB, hb, h1, h2, h3, h4, h5, h6⟩ := H.loopAt hl
          rw [hp] at hp'; cases hp'
          obtain ⟨htm1, hlen⟩ := setAll_TmR hset hv h3
          refine ⟨L.fn, _, L.assign, L.body, run_yield hb (by rw [h4]; simp [hlen]), roundIn_of_wpIn (F := FW none) trivial ?_⟩
          have htm1' : TmR w0 ρ tm1 ((L.params.zip us.toArray).foldl (fun tmps (t, a) => tmps.setIfInBounds t a) L.tmps) := by
            rw [h4]
            rw [← Array.foldl_toList]
            simpa using htm1
          have start : StR w0 ρ ⟨tm1, [], h⟩ { tmps := (L.params.zip us.toArray).foldl (fun tmps (t, a) => tmps.setIfInBounds t a) L.tmps, defers := [] } w := ⟨H, htm1', trivial⟩
          split at hr
          · rename_i s1 hs1
            rw [h5]
            refine run_sound hT hF ih hDr n as (some l) (some p.r) k ρ _ _ w _ _ _ hs1 ⟨p, hp, rfl⟩ start ?_
            intro ρ1 A1 w1 hx1 hS1
            split at hr
            · rename_i tmx psx asx box hl1
              obtain ⟨p1, L1, hp1, hB1, hb1, g1, g2, g3, g4, g5, g6⟩ := hS1.h.loopAt hl1
              have e1 : p1 = p := by have := hx1 _ _ hp; rw [hp1] at this; cases this; rfl
              subst e1
              refine ⟨_, run_beginRound hb1 g1, ?_⟩
              have H2 := hS1.h.setObj hl1 rfl hp1 (.loop .busy none tmx psx asx box) (.loop { L1 with state := .busy })
                (.loop _ _ _ _ _ _ _ hB1 _ (World.putObj_heap_same ((Array.getElem?_eq_some_iff.1 hb1).1)) rfl g2 g3 g4 g5 g6)
              rw [h6]
              split at hr
              · rename_i ex s2 hs2
                refine run_sound hT hF ih hDr n bo (some l) (some p1.r) k ρ1 _ _ _ ex s2 _ hs2 ⟨p1, hp1, rfl⟩ ⟨H2, hS1.tm, hS1.marks⟩ ?_
                intro ρ2 A2 w2 hx2 hS2
                split at hr
                · rename_i tmy psy asy boy hl2
                  obtain ⟨p2, L2, hp2, hB2, hb2, k1, k2, k3, k4, k5, k6⟩ := hS2.h.loopAt hl2
                  have e2 : p2 = p1 := by have := hx2 _ _ hp1; rw [hp2] at this; cases this; rfl
                  subst e2
                  simp only [Option.some.injEq, Prod.mk.injEq] at hr
                  obtain ⟨rfl, rfl⟩ := hr
                  have H3 := hS2.h.setObj hl2 rfl hp2 (.loop (if ex.jump.isNone then .ready else .done) ex.jump tmy psy asy boy) (.loop { L2 with state := if ex.jump.isNone then .ready else .done, pending := ex.jump })
                    (.loop _ _ _ _ _ _ _ hB2 _ (World.putObj_heap_same ((Array.getElem?_eq_some_iff.1 hb2).1)) rfl rfl k3 k4 k5 k6)
                  have fin : ∃ v w', (Instr.endRound p2.r ex.jump).run P w2 = .ok v w' ∧ Ret w0 ρ (.bool ex.jump.isNone) (s2.h.set l (.loop (if ex.jump.isNone then .ready else .done) ex.jump tmy psy asy boy)) (.returned v) w' :=
                    ⟨_, _, run_endRound _ hb2, ρ2, _, rfl, hx1.trans hx2, H3, .bool _⟩
                  cases ex <;> exact fin
                · simp at hr
              · simp at hr
            · simp at hr
          · simp at hr
      · simp at hr
end call
end Go.Abs
