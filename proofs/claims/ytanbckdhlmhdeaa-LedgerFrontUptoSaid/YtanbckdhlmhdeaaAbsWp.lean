/- Plain reasoning about runs of the abstract machine: 'from some fuel on'. -/
import Derived.Test.YtanbckdhlmhdeaaAbsRow
set_option linter.unusedSimpArgs false
set_option linter.unusedVariables false
namespace Go.Abs
section wp
variable (P : Program) (T : Tys)
def sysA (n : Nat) : Sys := ⟨callA P T n, yieldA P T n⟩
/-- From some fuel on, the call ends so. -/
def CallA (f : FuncId) (args : List AV) (h : AH) (v : AV) (h' : AH) : Prop := ∃ N, ∀ n, N ≤ n → callA P T n f args h = some (v, h')
def YieldA (l : Nat) (args : List AV) (h : AH) (v : AV) (h' : AH) : Prop := ∃ N, ∀ n, N ≤ n → yieldA P T n l args h = some (v, h')
def wp (rd : Option Nat) (c : Code) (Q : Ex → St → Prop) (s : St) : Prop := ∃ e s', (∃ N, ∀ n, N ≤ n → runCode T (sysA P T n) rd n c s = some (e, s')) ∧ Q e s'
def wpLoop (rd : Option Nat) (c : Code) (Q : Ex → St → Prop) (s : St) : Prop := ∃ e s', (∃ N, ∀ n, N ≤ n → ∀ k, N ≤ k → loopA k (runCode T (sysA P T n) rd n c) s = some (e, s')) ∧ Q e s'

/-! ### Regions as lists -/
def stepL (S : Sys) (ops : Array Oper) (o : Oper) (tm : Tm) (h : AH) : Option (Tm × AH) :=
  if wantedA ops o tm then
    match stepOp T S tm.get o h with
    | none => none
    | some (v, h') => (tm.put o.dst v).map fun t => (t, h')
  else (tm.put o.dst undefA).map fun t => (t, h)
def runL (S : Sys) (ops : Array Oper) : List Oper → Tm → AH → Option (Tm × AH)
  | [], tm, h => some (tm, h)
  | o :: l, tm, h => match stepL T S ops o tm h with
    | none => none
    | some (tm', h') => runL S ops l tm' h'
variable {P T}
theorem regStep_stepL {S : Sys} {ops : Array Oper} {i : Nat} {o : Oper} {tm : Tm} {h : AH} (ho : ops[i]? = some o) : regStep T S ops i tm h = stepL T S ops o tm h := by
  unfold regStep stepL
  simp only [ho]
  rfl
theorem regRun_runL {S : Sys} {ops : Array Oper} : ∀ (l : List Oper) (b : Nat) (tm : Tm) (h : AH), (∀ i, i < l.length → ops[b + i]? = l[i]?) → regRun T S ops ((List.range l.length).map (b + ·)) tm h = runL T S ops l tm h
  | [], b, tm, h, _ => rfl
  | o :: l, b, tm, h, hl => by
    have h0 : ops[b]? = some o := by simpa using hl 0 (by simp)
    have hr : (List.range (o :: l).length).map (b + ·) = b :: (List.range l.length).map (b + 1 + ·) := by
      rw [List.length_cons, List.range_succ_eq_map]
      simp [Function.comp_def, Nat.add_assoc, Nat.add_comm]
      intros; omega
    rw [hr]
    simp only [regRun, runL, regStep_stepL h0]
    cases stepL T S ops o tm h with
    | none => rfl
    | some r =>
      obtain ⟨tm', h'⟩ := r
      exact regRun_runL l (b + 1) tm' h' fun i hi => by
        have := hl (i + 1) (by simp; omega)
        simp only [List.getElem?_cons_succ] at this
        rw [← this]; congr 1; omega
theorem regRun_list {S : Sys} {ops : Array Oper} {tm : Tm} {h : AH} : regRun T S ops (List.range ops.size) tm h = runL T S ops ops.toList tm h := by
  have := regRun_runL (T := T) (S := S) (ops := ops) ops.toList 0 tm h (by simp)
  simpa using this

def wpo (P : Program) (T : Tys) (ops : Array Oper) (l : List Oper) (K : Tm → AH → Prop) (tm : Tm) (h : AH) : Prop := ∃ tm' h', (∃ N, ∀ n, N ≤ n → runL T (sysA P T n) ops l tm h = some (tm', h')) ∧ K tm' h'
theorem wpo_nil {ops : Array Oper} {K : Tm → AH → Prop} {tm : Tm} {h : AH} (hk : K tm h) : wpo P T ops [] K tm h := ⟨tm, h, ⟨0, fun _ _ => rfl⟩, hk⟩
theorem wpo_val {ops : Array Oper} {l : List Oper} {o : Oper} {K : Tm → AH → Prop} {tm tm' : Tm} {h h' : AH} {v : AV} (hw : wantedA ops o tm = true) (hv : evalOp T tm.get o h = some (.val v h')) (hp : tm.put o.dst v = some tm') (hk : wpo P T ops l K tm' h') :
    wpo P T ops (o :: l) K tm h := by
  obtain ⟨t, h2, ⟨N, hN⟩, hk⟩ := hk
  refine ⟨t, h2, ⟨N, fun n hn => ?_⟩, hk⟩
  simp only [runL, stepL, if_pos hw, stepOp, hv, hp, Option.map_some]
  exact hN n hn
theorem wpo_skip {ops : Array Oper} {l : List Oper} {o : Oper} {K : Tm → AH → Prop} {tm tm' : Tm} {h : AH} (hw : wantedA ops o tm = false) (hp : tm.put o.dst undefA = some tm') (hk : wpo P T ops l K tm' h) :
    wpo P T ops (o :: l) K tm h := by
  obtain ⟨t, h2, ⟨N, hN⟩, hk⟩ := hk
  refine ⟨t, h2, ⟨N, fun n hn => ?_⟩, hk⟩
  have : ¬ wantedA ops o tm = true := by rw [hw]; simp
  simp only [runL, stepL, if_neg this, hp, Option.map_some]
  exact hN n hn
theorem wpo_call {ops : Array Oper} {l : List Oper} {o : Oper} {K : Tm → AH → Prop} {tm tm' : Tm} {h h' : AH} {v : AV} {f : FuncId} {args : List AV} (hw : wantedA ops o tm = true) (hv : evalOp T tm.get o h = some (.enter f args)) (hc : CallA P T f args h v h')
    (hp : tm.put o.dst v = some tm') (hk : wpo P T ops l K tm' h') : wpo P T ops (o :: l) K tm h := by
  obtain ⟨t, h2, ⟨N, hN⟩, hk⟩ := hk
  obtain ⟨M, hM⟩ := hc
  refine ⟨t, h2, ⟨max N M, fun n hn => ?_⟩, hk⟩
  simp only [runL, stepL, if_pos hw, stepOp, hv]
  simp only [sysA, hM n (by omega), hp, Option.map_some]
  exact hN n (by omega)
theorem wpo_round {ops : Array Oper} {l : List Oper} {o : Oper} {K : Tm → AH → Prop} {tm tm' : Tm} {h h' : AH} {v : AV} {f : Nat} {args : List AV} (hw : wantedA ops o tm = true) (hv : evalOp T tm.get o h = some (.round f args)) (hc : YieldA P T f args h v h')
    (hp : tm.put o.dst v = some tm') (hk : wpo P T ops l K tm' h') : wpo P T ops (o :: l) K tm h := by
  obtain ⟨t, h2, ⟨N, hN⟩, hk⟩ := hk
  obtain ⟨M, hM⟩ := hc
  refine ⟨t, h2, ⟨max N M, fun n hn => ?_⟩, hk⟩
  simp only [runL, stepL, if_pos hw, stepOp, hv]
  simp only [sysA, hM n (by omega), hp, Option.map_some]
  exact hN n (by omega)

/-! ### Control -/
variable {rd : Option Nat} {Q : Ex → St → Prop} {s : St}
theorem wp_skip (h : Q .normal s) : wp P T rd .skip Q s := ⟨.normal, s, ⟨0, fun _ _ => rfl⟩, h⟩
theorem wp_label {l : Nat} (h : Q .normal s) : wp P T rd (.label l) Q s := ⟨.normal, s, ⟨0, fun _ _ => rfl⟩, h⟩
theorem wp_ret (h : Q .ret s) : wp P T rd .ret Q s := ⟨.ret, s, ⟨0, fun _ _ => rfl⟩, h⟩
theorem wp_exit {i : Nat} (h : Q (.exit i) s) : wp P T rd (.exit i) Q s := ⟨.exit i, s, ⟨0, fun _ _ => rfl⟩, h⟩
theorem wp_goto {i : Nat} (h : Q (.goto i) s) : wp P T rd (.goto i) Q s := ⟨.goto i, s, ⟨0, fun _ _ => rfl⟩, h⟩
/-- What follows, of a way of leaving. -/
def onNormal (K : St → Prop) (Q : Ex → St → Prop) : Ex → St → Prop
  | .normal, s => K s
  | e, s => Q e s
def onExit (i : Nat) (Q : Ex → St → Prop) : Ex → St → Prop
  | .exit j, s => if j = i then Q .normal s else Q (.exit j) s
  | e, s => Q e s
def noGoto (Q : Ex → St → Prop) : Ex → St → Prop
  | .goto _, _ => False
  | e, s => Q e s
theorem wp_seq {a b : Code} (h : wp P T rd a (onNormal (wp P T rd b Q) Q) s) : wp P T rd (.seq a b) Q s := by
  obtain ⟨e, s1, ⟨N, hN⟩, hq⟩ := h
  cases e with
  | normal =>
    obtain ⟨e2, s2, ⟨M, hM⟩, hq⟩ := hq
    exact ⟨e2, s2, ⟨max N M, fun n hn => by simp only [runCode, hN n (by omega)]; exact hM n (by omega)⟩, hq⟩
  | exit i => exact ⟨_, s1, ⟨N, fun n hn => by simp only [runCode, hN n hn]⟩, hq⟩
  | goto i => exact ⟨_, s1, ⟨N, fun n hn => by simp only [runCode, hN n hn]⟩, hq⟩
  | ret => exact ⟨_, s1, ⟨N, fun n hn => by simp only [runCode, hN n hn]⟩, hq⟩
theorem wp_cond {c : Operand} {a b : Code} {t : Bool} (hc : ev s.tm.get c = some (.bool t)) (ha : t = true → wp P T rd a Q s) (hb : t = false → wp P T rd b Q s) : wp P T rd (.cond c a b) Q s := by
  cases t with
  | true =>
    obtain ⟨e, s1, ⟨N, hN⟩, hq⟩ := ha rfl
    exact ⟨e, s1, ⟨N, fun n hn => by simp only [runCode, hc, if_true]; exact hN n hn⟩, hq⟩
  | false =>
    obtain ⟨e, s1, ⟨N, hN⟩, hq⟩ := hb rfl
    exact ⟨e, s1, ⟨N, fun n hn => by simp only [runCode, hc]; exact hN n hn⟩, hq⟩
theorem wp_block {i : Nat} {b : Code} (h : wp P T rd b (onExit i Q) s) : wp P T rd (.block i b) Q s := by
  obtain ⟨e, s1, ⟨N, hN⟩, hq⟩ := h
  cases e with
  | normal => exact ⟨_, s1, ⟨N, fun n hn => by simp only [runCode, hN n hn]⟩, hq⟩
  | exit j =>
    simp only [onExit] at hq
    by_cases e : j = i
    · rw [if_pos e] at hq
      exact ⟨_, s1, ⟨N, fun n hn => by simp only [runCode, hN n hn, if_pos e]⟩, hq⟩
    · rw [if_neg e] at hq
      exact ⟨_, s1, ⟨N, fun n hn => by simp only [runCode, hN n hn, if_neg e]⟩, hq⟩
  | goto i => exact ⟨_, s1, ⟨N, fun n hn => by simp only [runCode, hN n hn]⟩, hq⟩
  | ret => exact ⟨_, s1, ⟨N, fun n hn => by simp only [runCode, hN n hn]⟩, hq⟩
theorem wp_scope {b : Code} (h : wp P T rd b (noGoto Q) s) : wp P T rd (.scope b) Q s := by
  obtain ⟨e, s1, ⟨N, hN⟩, hq⟩ := h
  cases e with
  | goto i => exact hq.elim
  | normal => exact ⟨_, s1, ⟨N, fun n hn => by simp only [runCode, hN n hn]⟩, hq⟩
  | exit i => exact ⟨_, s1, ⟨N, fun n hn => by simp only [runCode, hN n hn]⟩, hq⟩
  | ret => exact ⟨_, s1, ⟨N, fun n hn => by simp only [runCode, hN n hn]⟩, hq⟩
theorem wpLoop_step {b : Code} (h : wp P T rd b (onNormal (wpLoop P T rd b Q) Q) s) : wpLoop P T rd b Q s := by
  obtain ⟨e, s1, ⟨N, hN⟩, hq⟩ := h
  cases e with
  | normal =>
    obtain ⟨e2, s2, ⟨M, hM⟩, hq⟩ := hq
    refine ⟨e2, s2, ⟨max N M + 1, fun n hn k hk => ?_⟩, hq⟩
    cases k with
    | zero => omega
    | succ k => simp only [loopA, hN n (by omega)]; exact hM n (by omega) k (by omega)
  | exit i => exact ⟨_, s1, ⟨N + 1, fun n hn k hk => by cases k with | zero => omega | succ k => simp only [loopA, hN n (by omega)]⟩, hq⟩
  | goto i => exact ⟨_, s1, ⟨N + 1, fun n hn k hk => by cases k with | zero => omega | succ k => simp only [loopA, hN n (by omega)]⟩, hq⟩
  | ret => exact ⟨_, s1, ⟨N + 1, fun n hn k hk => by cases k with | zero => omega | succ k => simp only [loopA, hN n (by omega)]⟩, hq⟩
theorem wp_loop {b : Code} (h : wpLoop P T rd b Q s) : wp P T rd (.loop b) Q s := by
  obtain ⟨e, s1, ⟨N, hN⟩, hq⟩ := h
  exact ⟨e, s1, ⟨N, fun n hn => by simp only [runCode]; exact hN n hn n hn⟩, hq⟩
/-- A loop by an invariant and a measure. -/
theorem wp_loop_inv {b : Code} (I : Nat → St → Prop) (m : Nat) (hb : ∀ m s, I m s → wp P T rd b (onNormal (fun s' => ∃ m', m' < m ∧ I m' s') Q) s) (h : I m s) : wp P T rd (.loop b) Q s := by
  refine wp_loop ?_
  induction m using Nat.strongRecOn generalizing s with
  | _ m ih =>
    refine wpLoop_step ?_
    obtain ⟨e, s1, hN, hq⟩ := hb m s h
    refine ⟨e, s1, hN, ?_⟩
    cases e with
    | normal =>
      obtain ⟨m', hm, hI⟩ := hq
      exact ih m' hm hI
    | _ => exact hq
theorem wp_mono {c : Code} {Q' : Ex → St → Prop} (h : wp P T rd c Q s) (hq : ∀ e s, Q e s → Q' e s) : wp P T rd c Q' s := by
  obtain ⟨e, s1, hN, h⟩ := h
  exact ⟨e, s1, hN, hq _ _ h⟩
theorem wp_region {id : Nat} {ops : Array Oper} (h : wpo P T ops ops.toList (fun tm h => Q .normal { tm := tm, marks := s.marks, h := h }) s.tm s.h) : wp P T rd (.region id ops false) Q s := by
  obtain ⟨tm, h', ⟨N, hN⟩, hq⟩ := h
  refine ⟨.normal, _, ⟨N, fun n hn => ?_⟩, hq⟩
  simp only [runCode, Bool.false_eq_true, if_false, regRun_list, hN n hn]

/-! ### Regions that draw, and look at memory where nothing changes it -/
/-- Each place where a look at memory may come has the memory that the text's order has there. -/
def tightAt (T : Tys) (ops : List Oper) (m : List Nat) (i : Nat) : Bool :=
  match ops[i]? with
  | some o => if kindOf T o.op = 1 then
      (placesOf T ops).all fun p => !mayAt T ops m i p || (List.range ops.length).all fun e => match ops[e]? with
        | some x => !(decide (kindOf T x.op = 2)) || !((decide (p ≤ e) && decide (e < i)) || (decide (i ≤ e) && decide (e < p)))
        | none => true
    else true
  | none => true
def tight (T : Tys) (ops : List Oper) : Bool := drawOk T ops && (List.range ops.length).all (tightAt T ops (masks ops []))
theorem regTrace_run {S : Sys} {ops : Array Oper} : ∀ (l : List Nat) {tm tm' : Tm} {h h' : AH}, regRun T S ops l tm h = some (tm', h') → ∃ tr, regTrace T S ops l tm h = some tr ∧ tr[l.length]? = some (tm', h')
  | [], tm, tm', h, h', hr => by simp [regRun] at hr; obtain ⟨rfl, rfl⟩ := hr; exact ⟨_, rfl, rfl⟩
  | i :: l, tm, tm', h, h', hr => by
    simp only [regRun] at hr
    split at hr
    · simp at hr
    · rename_i tm1 h1 hst
      obtain ⟨tr, k1, k2⟩ := regTrace_run l hr
      refine ⟨(tm, h) :: tr, by simp only [regTrace, hst, k1, Option.map_some], by simpa using k2⟩
theorem regDraw_tight {S : Sys} {ops : Array Oper} {tm tm' : Tm} {h h' : AH} (ht : tight T ops.toList = true) (hr : regRun T S ops (List.range ops.size) tm h = some (tm', h')) : regDraw T S ops tm h = some (tm', h') := by
  unfold tight at ht
  simp only [Bool.and_eq_true, List.all_eq_true] at ht
  obtain ⟨hd, ht⟩ := ht
  obtain ⟨tr, k1, k2⟩ := regTrace_run _ hr
  rw [List.length_range] at k2
  have D := drawOk_DOk hd
  have H := regTrace_TrOk k1
  unfold regDraw
  simp only [hd, if_true, k1]
  have hl : looseOk T ops (masks ops.toList []) tr = true := by
    unfold looseOk
    rw [List.all_eq_true]
    intro i hi
    have hil : i < ops.size := by simpa using hi
    have ho : ops[i]? = some ops[i] := Array.getElem?_eq_getElem _
    unfold looseAt
    rw [ho, H.get i (by omega)]
    simp only
    split
    · rename_i hc
      rw [List.all_eq_true]
      intro p hp
      split
      · rename_i hmay
        have hps : p ≤ ops.size := by
          unfold placesOf at hp
          rcases List.mem_cons.1 hp with rfl | hp
          · omega
          · obtain ⟨e, he, hx⟩ := List.mem_filterMap.1 hp
            have : e < ops.size := by simpa using he
            split at hx
            · simp at hx
            · split at hx <;> simp at hx; omega
        rw [H.get p hps]
        simp only
        have hsame : (tr.getD p (tm, h)).2 = (tr.getD i (tm, h)).2 := by
          have hti := ht i (by simpa using hil)
          unfold tightAt at hti
          rw [toL ho] at hti
          simp only [if_pos hc.1, List.all_eq_true] at hti
          have := hti p hp
          rw [hmay] at this
          simp only [Bool.not_true, Bool.false_or, List.all_eq_true] at this
          have quiet : ∀ (j : Nat) (o : Oper), ops[j]? = some o → ((p ≤ j ∧ j < i) ∨ (i ≤ j ∧ j < p)) → kindOf T o.op ≤ 1 := by
            intro j o hj hjj
            have hjl := (Array.getElem?_eq_some_iff.1 hj).1
            have h2 := this j (by simpa using hjl)
            rw [toL hj] at h2
            have hk := D.kind j o (toL hj)
            simp only [Bool.or_eq_true, Bool.not_eq_true', decide_eq_false_iff_not, Bool.or_eq_false_iff, Bool.and_eq_false_iff] at h2
            omega
          rcases Nat.le_total p i with hpi | hpi
          · exact (H.stayH i hpi (by omega) fun j o h1 h2 h3 => quiet j o h3 (.inl ⟨h1, h2⟩)).symm
          · exact H.stayH p hpi hps fun j o h1 h2 h3 => quiet j o h3 (.inr ⟨h1, h2⟩)
        rw [hsame]
        obtain ⟨v, _, hst | hst⟩ := H.at ho
        · have := (stepOp_quiet (by omega) hst.2).2
          unfold seesSame
          rw [this]
          exact AV.same_self v
        · rw [hc.2] at hst; simp at hst
      · rfl
    · rfl
  rw [if_pos hl]
  exact k2
theorem wp_draw {id : Nat} {ops : Array Oper} (ht : tight T ops.toList = true) (h : wpo P T ops ops.toList (fun tm h => Q .normal { tm := tm, marks := s.marks, h := h }) s.tm s.h) : wp P T rd (.region id ops true) Q s := by
  obtain ⟨tm, h', ⟨N, hN⟩, hq⟩ := h
  refine ⟨.normal, _, ⟨N, fun n hn => ?_⟩, hq⟩
  have := hN n hn
  rw [← regRun_list] at this
  simp only [runCode, if_true, regDraw_tight ht this]

/-! ### A call -/
theorem callA_of_wp {f : FuncId} {fn : Func} {c : Code} {args : List AV} {h h' : AH} {v : AV} (hf : P.funcs[f]? = some fn) (hb : fn.body = some c)
    (hw : wp P T none c (fun e s => (e = .normal ∨ e = .ret) ∧ leave T fn.results.toList s = some (v, h')) ⟨Tm.enter args fn.ntmps, [], h⟩) : CallA P T f args h v h' := by
  obtain ⟨e, s, ⟨N, hN⟩, he, hl⟩ := hw
  refine ⟨N + 1, fun n hn => ?_⟩
  cases n with
  | zero => omega
  | succ n =>
    have := hN n (by omega)
    unfold sysA at this
    simp only [callA, hf, hb, this]
    rcases he with rfl | rfl <;> exact hl
end wp
end Go.Abs
