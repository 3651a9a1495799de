/- Control: the abstract machine's run of code is the model's walk of it (regions that draw are taken as a hypothesis here). -/
import Derived.Test.YtanbckdhlmhdeaaAbsOps6
import Derived.RangeFuncIn
import Derived.RangeFuncLeaves
import Derived.RangeFuncCalls
import Derived.OrdersIn
set_option linter.unusedSimpArgs false
set_option linter.unusedVariables false
namespace Go.Abs
open Go.RowKit
section ctl
variable {P : Program} {T : Tys} {w0 w : World} {ρ : Rho} {h h' : AH}

/-- The fence that lets all in; in a round of the record rd. -/
def FW (rd : Option Nat) : Fence := { Fence.wide with round := rd }
theorem FW_fn (rd : Option Nat) (f : FuncId) : (FW rd).fn f := trivial
theorem FW_depth (rd : Option Nat) (n : Nat) : (FW rd).depth.isSome = true → 1 ≤ n := fun h => by simp [FW, Fence.wide] at h
theorem FW_room (rd : Option Nat) (n : Nat) : (FW rd).room n := fun _ h => by simp [FW, Fence.wide] at h

/-- A call's end. -/
def Ret (w0 : World) (ρ : Rho) (v : AV) (h' : AH) : Ending → World → Prop := fun e w' => ∃ ρ' u, e = .returned u ∧ Ext ρ ρ' ∧ WR w0 ρ' h' w' ∧ VR w0 ρ' v u
structure SysOk (P : Program) (w0 : World) (S : Sys) : Prop where
  body : ∀ f args h v h', S.call f args h = some (v, h') → ∃ fn c, P.funcs[f]? = some fn ∧ fn.body = some c
  call : ∀ f args h v h', S.call f args h = some (v, h') → ∀ ρ w us n, WR w0 ρ h w → VRs w0 ρ args us → CallsIn (FW none) n P f us.toArray w (Ret w0 ρ v h')
  yield : ∀ l args h v h', S.yield l args h = some (v, h') → ∀ ρ w us p n, ρ l = some p → WR w0 ρ h w → VRs w0 ρ args us →
    ∃ fn tmps assign body, (Instr.yield p.r us.toArray).run P w = .ok (.round p.r fn tmps assign body) w ∧ RoundIn (FW none) n P p.r fn tmps assign body w (Ret w0 ρ v h')
theorem calls_rd {rd : Option Nat} {n : Nat} {f : FuncId} {args : Array Value} {R : Ending → World → Prop} (h : CallsIn (FW none) n P f args w R) : CallsIn (FW rd) n P f args w R := h
theorem round_rd {rd : Option Nat} {n l : Nat} {f : FuncId} {tmps : Array Value} {as bo : Code} {R : Ending → World → Prop} (h : RoundIn (FW none) n P l f tmps as bo w R) : RoundIn (FW rd) n P l f tmps as bo w R := h

theorem evalOp_noDefer {e : Env} {o : Oper} {r : OpR} (hr : evalOp T e o h = some r) : ∀ c, o.op ≠ .defer c := by
  intro c hc
  obtain ⟨dst, op, type, pos, after, guard⟩ := o
  simp only at hc
  subst hc
  simp [evalOp] at hr

/-- One operation. -/
theorem op_wp {S : Sys} {rd : Option Nat} {n : Nat} {e : Env} {A : Act} {o : Oper} {v : AV} {Q : Exit → Act → World → Prop} {next : Act → World → Prop} (hT : TOk P T) (hF : FOk P) (hS : SysOk P w0 S)
    (hr : stepOp T S e o h = some (v, h')) (H : WR w0 ρ h w) (he : EnvR w0 ρ e A.tmps)
    (hk : ∀ ρ' u w', Ext ρ ρ' → WR w0 ρ' h' w' → VR w0 ρ' v u → next (A.put o.dst u) w') : o.wpIn (FW rd) n P A w next Q := by
  refine ⟨fun f _ => trivial, ?_⟩
  unfold stepOp at hr
  split at hr
  · rename_i v' h'' hev
    simp at hr; obtain ⟨rfl, rfl⟩ := hr
    rw [Oper.semAt_eq _ _ _ (evalOp_noDefer hev)]
    obtain ⟨ρ', u, w', nx, hrun, hnx, hx, H', hv⟩ := evalOp_sound (P := P) hT hF H he hev
    rw [hrun]
    rcases hnx with rfl | ⟨rfl, rfl⟩
    · exact hk ρ' u w' hx H' hv
    · exact hk ρ' undef w' hx H' hv
  · rename_i f args hev
    rw [Oper.semAt_eq _ _ _ (evalOp_noDefer hev)]
    obtain ⟨us, hus, hrun⟩ := evalOp_sound (P := P) hT hF H he hev
    obtain ⟨fn, c, h1, h2⟩ := hS.body _ _ _ _ _ hr
    rw [hrun fn c h1 h2]
    refine ⟨FW_depth rd n, (calls_rd (hS.call _ _ _ _ _ hr ρ w us (n - 1) H hus)).mono ?_⟩
    rintro e w' ⟨ρ', u, rfl, hx, H', hv⟩
    exact hk ρ' u w' hx H' hv
  · rename_i l args hev
    rw [Oper.semAt_eq _ _ _ (evalOp_noDefer hev)]
    obtain ⟨us, p, hp, hus, hrun⟩ := evalOp_sound (P := P) hT hF H he hev
    obtain ⟨fn, tmps, as, bo, hy, hR⟩ := hS.yield _ _ _ _ _ hr ρ w us p (n - 1) hp H hus
    rw [hrun, hy]
    refine ⟨FW_depth rd n, (round_rd hR).mono ?_⟩
    rintro e w' ⟨ρ', u, rfl, hx, H', hv⟩
    exact hk ρ' u w' hx H' hv
  · simp at hr

theorem wanted_eq {ops : Array Oper} {o : Oper} {tm : Tm} {ts : Array Value} (h : TmR w0 ρ tm ts) : Region.wanted o (yielded ops ts) = wantedA ops o tm := by
  unfold Region.wanted wantedA
  cases o.guard with
  | none => rfl
  | some g =>
    obtain ⟨j, want⟩ := g
    simp only [yielded]
    cases hd : (ops[j]?).bind (·.dst) with
    | none => rfl
    | some d =>
      simp only [Option.bind_some]
      have hv := h.2 d
      by_cases hlt : d < ts.size
      · have e1 : ts[d]? = some ts[d] := by simp [hlt]
        have e2 : ts.getD d undef = ts[d] := by simp [Array.getD, hlt]
        rw [e2] at hv
        rw [e1]
        generalize ts[d] = u at hv
        generalize tm.get d = a at hv
        cases hv <;> rfl
      · have e1 : ts[d]? = none := Array.getElem?_eq_none (Nat.le_of_not_lt hlt)
        have e2 : ts.getD d undef = undef := by simp [Array.getD, hlt]
        rw [e2] at hv
        rw [e1]
        generalize tm.get d = a at hv
        unfold undef at hv
        cases hv <;> rfl

theorem regStep_wp {S : Sys} {rd : Option Nat} {n : Nat} {ops : Array Oper} {i : Nat} {tm tm' : Tm} {A : Act} {Q : Exit → Act → World → Prop} {K : Act → World → Prop} (hT : TOk P T) (hF : FOk P) (hS : SysOk P w0 S)
    (hr : regStep T S ops i tm h = some (tm', h')) (H : WR w0 ρ h w) (ht : TmR w0 ρ tm A.tmps)
    (hk : ∀ ρ' A' w', Ext ρ ρ' → WR w0 ρ' h' w' → TmR w0 ρ' tm' A'.tmps → A'.defers = A.defers → K A' w') : wpOpIn (FW rd) n P ops Q i K A w := by
  unfold regStep at hr
  unfold wpOpIn
  cases ho : ops[i]? with
  | none => simp [ho] at hr
  | some o =>
    simp only [ho] at hr ⊢
    rw [wanted_eq ht]
    split at hr
    · rename_i hw
      rw [if_pos hw]
      split at hr
      · simp at hr
      · rename_i v h2 hst
        obtain ⟨tm2, hput, hz⟩ := Option.map_eq_some_iff.1 hr
        simp at hz; obtain ⟨rfl, rfl⟩ := hz
        refine op_wp hT hF hS hst H ht.2 fun ρ' u w' hx H' hv => hk ρ' _ w' hx H' ((ht.ext hx).put (A := A) hput hv) ?_
        cases o.dst <;> rfl
    · rename_i hw
      rw [if_neg hw]
      obtain ⟨tm2, hput, hz⟩ := Option.map_eq_some_iff.1 hr
      simp at hz; obtain ⟨rfl, rfl⟩ := hz
      refine ⟨fun f _ => trivial, hk ρ _ w (Ext.refl _) H (ht.put (A := A) hput undef_VR) ?_⟩
      cases o.dst <;> rfl

theorem regRun_wp {S : Sys} {rd : Option Nat} {n : Nat} {ops : Array Oper} {Q : Exit → Act → World → Prop} (hT : TOk P T) (hF : FOk P) (hS : SysOk P w0 S) : ∀ (l : List Nat) {ρ : Rho} {h : AH} {w : World} {tm tm' : Tm} {A : Act},
    regRun T S ops l tm h = some (tm', h') → WR w0 ρ h w → TmR w0 ρ tm A.tmps → (∀ ρ' A' w', Ext ρ ρ' → WR w0 ρ' h' w' → TmR w0 ρ' tm' A'.tmps → A'.defers = A.defers → Q .normal A' w') → wpOpsIn (FW rd) n P ops Q l A w
  | [], ρ, h, w, tm, tm', A, hr, H, ht, hk => by
    simp [regRun] at hr; obtain ⟨rfl, rfl⟩ := hr
    exact hk ρ A w (Ext.refl _) H ht rfl
  | i :: l, ρ, h, w, tm, tm', A, hr, H, ht, hk => by
    simp only [regRun] at hr
    split at hr
    · simp at hr
    · rename_i tm1 h1 hst
      rw [wpOpsIn_cons]
      refine regStep_wp hT hF hS hst H ht fun ρ' A' w' hx H' ht' hd => ?_
      exact regRun_wp hT hF hS l hr H' ht' fun ρ2 A2 w2 hx2 H2 ht2 hd2 => hk ρ2 A2 w2 (hx.trans hx2) H2 ht2 (hd2.trans hd)

/-- What is owed of a region that draws. -/
def DrawOk (P : Program) (T : Tys) (w0 : World) (S : Sys) : Prop := ∀ (rd : Option Nat) (n : Nat) (id : Nat) (ops : Array Oper) (Q : Exit → Act → World → Prop) (ρ : Rho) (h h' : AH) (w : World) (tm tm' : Tm) (A : Act),
  regDraw T S ops tm h = some (tm', h') → WR w0 ρ h w → TmR w0 ρ tm A.tmps → (∀ ρ' A' w', Ext ρ ρ' → WR w0 ρ' h' w' → TmR w0 ρ' tm' A'.tmps → A'.defers = A.defers → Q .normal A' w') → (Code.region id ops true).wpIn (FW rd) n P Q A w

/-! ### Code -/
def Ex.toExit : Ex → Exit
  | .normal => .normal
  | .exit id => .exit id
  | .goto l => .goto l
  | .ret => .ret
def MarksR (ρ : Rho) : List Nat → List Deferred → Prop
  | [], [] => True
  | i :: m, d :: ds => (∃ p, ρ i = some p ∧ d = { target := .collected p.r, args := #[] }) ∧ MarksR ρ m ds
  | _, _ => False
theorem MarksR.ext {ρ ρ' : Rho} (hx : Ext ρ ρ') : ∀ {m : List Nat} {ds : List Deferred}, MarksR ρ m ds → MarksR ρ' m ds
  | [], [], _ => trivial
  | i :: m, d :: ds, ⟨⟨p, hp, hd⟩, h⟩ => ⟨⟨p, hx _ _ hp, hd⟩, h.ext hx⟩
theorem MarksR.append {ρ : Rho} : ∀ {m m' : List Nat} {ds ds' : List Deferred}, MarksR ρ m ds → MarksR ρ m' ds' → MarksR ρ (m ++ m') (ds ++ ds')
  | [], _, [], _, _, h => h
  | i :: m, _, d :: ds, _, ⟨hd, h⟩, k => ⟨hd, h.append k⟩
structure StR (w0 : World) (ρ : Rho) (s : St) (A : Act) (w : World) : Prop where
  h : WR w0 ρ s.h w
  tm : TmR w0 ρ s.tm A.tmps
  marks : MarksR ρ s.marks A.defers
/-- The real number of the round's record. -/
def RdR (ρ : Rho) : Option Nat → Option Nat → Prop
  | none, none => True
  | some l, some r => ∃ p, ρ l = some p ∧ p.r = r
  | _, _ => False
theorem RdR.ext {ρ ρ' : Rho} (hx : Ext ρ ρ') {a b : Option Nat} (h : RdR ρ a b) : RdR ρ' a b := by
  cases a <;> cases b <;> first | exact h | (obtain ⟨p, hp, hr⟩ := h; exact ⟨p, hx _ _ hp, hr⟩)
def Out (w0 : World) (ρ : Rho) (e : Ex) (s' : St) (Q : Exit → Act → World → Prop) : Prop := ∀ ρ' A' w', Ext ρ ρ' → StR w0 ρ' s' A' w' → Q e.toExit A' w'
theorem Out.ext {w0 : World} {ρ ρ' : Rho} {e : Ex} {s' : St} {Q : Exit → Act → World → Prop} (h : Out w0 ρ e s' Q) (hx : Ext ρ ρ') : Out w0 ρ' e s' Q := fun ρ2 A w hx2 hs => h ρ2 A w (hx.trans hx2) hs

section more
variable {b : Frame} {a : Act} {k : List Item} {cs : List Frame}
theorem stepR_scope {c : Code} : step P (lone (b.atR a (.code (.scope c) :: k)) cs w) = .next (lone (b.atR a (.code c :: .inScope c :: k)) cs w) :=
  step_lone_go (by simp [stepG, stepG.exec, Frame.atR])
theorem stepR_inScope {c : Code} : step P (lone (b.atR a (.inScope c :: k)) cs w) = .next (lone (b.atR a k) cs w) :=
  step_lone_go (by simp [stepG, stepG.exec, Frame.atR])
end more
theorem wpIn_scope {rd : Option Nat} {n : Nat} {c : Code} {Q : Exit → Act → World → Prop} {a : Act} (h : c.wpIn (FW rd) n P (fun e a w => (∀ l, e ≠ .goto l) ∧ Q e a w) a w) : (Code.scope c).wpIn (FW rd) n P Q a w := by
  intro b k cs hro hb hr
  have h0 : (lone (b.atR a (.code (.scope c) :: k)) cs w).fenced P (FW rd) := fenced_calm hb hr rfl
  obtain ⟨e, a₁, w₁, ⟨hg, hq⟩, harr⟩ := h b (.inScope c :: k) cs hro hb hr
  cases e with
  | normal => exact ⟨.normal, a₁, w₁, hq, .head h0 stepR_scope (StepsIn.trans harr (.one (fenced_calm hb hr rfl) stepR_inScope))⟩
  | exit id =>
    have hx : exitTo id (.inScope c :: k) = exitTo id k := by simp [exitTo]
    exact ⟨.exit id, a₁, w₁, hq, fun k' hk => .head h0 stepR_scope (harr.1 k' (by rw [hx]; exact hk)),
      fun hr' hk => let ⟨k₁, h1, h2⟩ := harr.2 hr' (by rw [hx]; exact hk); ⟨k₁, h1, .head h0 stepR_scope h2⟩⟩
  | goto l => exact absurd rfl (hg l)
  | ret => exact ⟨_, a₁, w₁, hq, .of_steps (.one h0 stepR_scope) harr⟩
  | panic ch => exact ⟨_, a₁, w₁, hq, .of_steps (.one h0 stepR_scope) harr⟩
  | outgrown => exact ⟨_, a₁, w₁, hq, .of_steps (.one h0 stepR_scope) harr⟩

/-- A loop, round by round. -/
theorem loop_wp {rd : Option Nat} {n : Nat} {c : Code} {Q : Exit → Act → World → Prop} (B : St → Option (Ex × St)) (ρ0 : Rho) {s' : St} {e : Ex}
    (hB : ∀ s1 e1 s2 ρ A w Q', B s1 = some (e1, s2) → Ext ρ0 ρ → StR w0 ρ s1 A w → Out w0 ρ e1 s2 Q' → c.wpIn (FW rd) n P Q' A w) (hQ : Out w0 ρ0 e s' Q) :
    ∀ (j : Nat) (s : St) (ρ : Rho) (A : Act) (w : World), loopA j B s = some (e, s') → Ext ρ0 ρ → StR w0 ρ s A w →
      ∀ (b : Frame) (k : List Item) (cs : List Frame), b.roundOf = (FW rd).round → (FW rd).fn b.fn → (FW rd).room (cs.length + 1 + n) →
      ∃ E a' w', Q E a' w' ∧ ArrivesIn (Machine.fenced P (FW rd)) P (lone (b.atR A (.code c :: .inLoop c :: k)) cs w) b k cs E a' w' := by
  intro j
  induction j with
  | zero => intro s ρ A w hr; simp [loopA] at hr
  | succ j ih =>
    intro s ρ A w hr hx0 hs b k cs hro hb hroom
    simp only [loopA] at hr
    split at hr
    · rename_i s1 hst
      obtain ⟨E, a₁, w₁, ⟨hE, ρ1, hx1, hs1⟩, harr⟩ := hB s .normal s1 ρ A w (fun E a' w' => E = .normal ∧ ∃ ρ', Ext ρ ρ' ∧ StR w0 ρ' s1 a' w') hst hx0 hs (fun ρ' A' w' hx' hs' => ⟨rfl, ρ', hx', hs'⟩) b (.inLoop c :: k) cs hro hb hroom
      subst hE
      obtain ⟨E2, a₂, w₂, hq, harr2⟩ := ih s1 ρ1 a₁ w₁ hr (hx0.trans hx1) hs1 b k cs hro hb hroom
      exact ⟨E2, a₂, w₂, hq, .of_steps (StepsIn.trans harr (.one (fenced_calm hb hroom rfl) stepR_inLoop)) harr2⟩
    · rename_i hne
      cases hBs : B s with
      | none => rw [hBs] at hr; simp at hr
      | some p =>
        obtain ⟨e1, s1⟩ := p
        rw [hBs] at hr
        simp at hr
        obtain ⟨rfl, rfl⟩ := hr
        obtain ⟨E, a₁, w₁, ⟨hE, hq⟩, harr⟩ := hB s e1 s1 ρ A w (fun E a' w' => E = e1.toExit ∧ Q E a' w') hBs hx0 hs (fun ρ' A' w' hx' hs' => ⟨rfl, hQ ρ' A' w' (hx0.trans hx') hs'⟩) b (.inLoop c :: k) cs hro hb hroom
        refine ⟨E, a₁, w₁, hq, .pass (x := .inLoop c) rfl (fun _ _ => .inl ?_) harr⟩
        rw [hE]
        intro hn
        cases e1 with
        | normal => exact hne s1 hBs
        | _ => simp [Ex.toExit] at hn
end ctl
end Go.Abs
