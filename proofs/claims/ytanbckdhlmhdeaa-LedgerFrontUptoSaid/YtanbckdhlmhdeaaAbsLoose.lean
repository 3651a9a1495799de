/- A region that draws its order, and looks at memory that it changes elsewhere. -/
import Derived.Test.YtanbckdhlmhdeaaAbsIter
set_option linter.unusedSimpArgs false
set_option linter.unusedVariables false
namespace Go.Abs
section loose
variable {P : Program} {T : Tys}
def quietB (T : Tys) (ops : List Oper) (i p : Nat) : Bool := (List.range ops.length).all fun e => match ops[e]? with
  | some x => !(decide (kindOf T x.op = 2)) || !((decide (p ≤ e) && decide (e < i)) || (decide (i ≤ e) && decide (e < p)))
  | none => true
/-- A look and a place that it may come to. -/
def loosePairs (T : Tys) (ops : List Oper) : List (Nat × Nat) := (List.range ops.length).flatMap fun i => match ops[i]? with
  | some o => if kindOf T o.op = 1 then (placesOf T ops).filterMap fun p => if mayAt T ops (masks ops []) i p && !quietB T ops i p then some (i, p) else none else []
  | none => []
/-- What a look needs is not overwritten behind it, nor its answer. -/
def steadyB (ops : List Oper) (i : Nat) : Bool := match ops[i]? with
  | some o => (List.range ops.length).all fun e => if i ≤ e then (match ops[e]? with | some x => (match x.dst with | some d => !(looks ops o).contains d && (decide (e = i) || !(o.dst == some d)) | none => true) | none => true) else true
  | none => false
def looseB (T : Tys) (ops : List Oper) (ps : List (Nat × Nat)) : Bool := drawOk T ops && (loosePairs T ops).all (fun q => ps.contains q) && ps.all fun q => steadyB ops q.1 && (match ops[q.1]? with | some o => o.dst.isSome | none => false)
def seeV : Option OpR → Option AV
  | some (.val v _) => some v
  | _ => none
theorem seeV_val {h : AH} {x : Option AV} : seeV (valR h x) = x := by cases x <;> rfl
theorem seeV_some {v : AV} {h : AH} : seeV (some (.val v h)) = some v := rfl
theorem seeV_pair {x : Option (AV × AH)} : seeV (pairR x) = x.map (·.1) := by cases x <;> rfl
/-- The look's answer at another memory is the one that it had. -/
def obl1 (T : Tys) (ops : Array Oper) (hs : List AH) (tm : Tm) (i p : Nat) : Prop := match ops[i]?, hs[p]? with
  | some o, some h' => wantedA ops o tm = true → seeV (evalOp T tm.get o h') = some (tm.get (o.dst.getD 0))
  | _, _ => False
def obls (T : Tys) (ops : Array Oper) (hs : List AH) (tm : Tm) : List (Nat × Nat) → Prop
  | [] => True
  | (i, p) :: r => obl1 T ops hs tm i p ∧ obls T ops hs tm r
theorem obls_mem {ops : Array Oper} {hs : List AH} {tm : Tm} : ∀ {l : List (Nat × Nat)}, obls T ops hs tm l → ∀ q ∈ l, obl1 T ops hs tm q.1 q.2
  | [], _, q, hq => by simp at hq
  | (i, p) :: r, h, q, hq => by
    rcases List.mem_cons.1 hq with rfl | hq
    · exact h.1
    · exact obls_mem h.2 q hq
/-- Operation by operation, the memories kept. -/
def Seg (P : Program) (T : Tys) (ops : Array Oper) : List Oper → List AH → (List AH → Tm → AH → Prop) → Tm → AH → Prop
  | [], hs, Z, tm, h => Z hs tm h
  | o :: r, hs, Z, tm, h => ∀ K : Tm → AH → Prop, (∀ tm' h', Seg P T ops r (hs ++ [h']) Z tm' h' → K tm' h') → opsW P T ops [o] K tm h
theorem seg_cons {ops : Array Oper} {o : Oper} {r : List Oper} {hs : List AH} {Z : List AH → Tm → AH → Prop} {tm : Tm} {h : AH} (hw : ∀ K : Tm → AH → Prop, (∀ tm' h', Seg P T ops r (hs ++ [h']) Z tm' h' → K tm' h') → opsW P T ops [o] K tm h) : Seg P T ops (o :: r) hs Z tm h := hw
theorem one_step {ops : Array Oper} {o : Oper} {K : Tm → AH → Prop} {tm : Tm} {h : AH} (hw : opsW P T ops [o] K tm h) : ∃ tm' h', (∃ N, ∀ n, N ≤ n → stepL T (sysA P T n) ops o tm h = some (tm', h')) ∧ K tm' h' := by
  obtain ⟨tm', h', ⟨N, hN⟩, hk⟩ := opsW_sound hw
  refine ⟨tm', h', ⟨N, fun n hn => ?_⟩, hk⟩
  have := hN n hn
  simp only [runL] at this
  split at this
  · simp at this
  · rename_i a b hs
    simp at this
    rw [hs, this.1, this.2]
theorem seg_trace {ops : Array Oper} {Z : List AH → Tm → AH → Prop} : ∀ {l : List Oper} {b : Nat} {hs : List AH} {tm : Tm} {h : AH}, (∀ i, i < l.length → ops[b + i]? = l[i]?) → Seg P T ops l hs Z tm h →
    ∃ tr, (∃ N, ∀ n, N ≤ n → regTrace T (sysA P T n) ops ((List.range l.length).map (b + ·)) tm h = some tr) ∧ tr.length = l.length + 1 ∧ ∃ tm' h', tr[l.length]? = some (tm', h') ∧ Z (hs ++ (tr.map (·.2)).tail) tm' h'
  | [], b, hs, tm, h, _, hz => ⟨[(tm, h)], ⟨0, fun n _ => rfl⟩, rfl, tm, h, rfl, by simpa [Seg] using hz⟩
  | o :: l, b, hs, tm, h, hl, hz => by
    obtain ⟨tm1, h1, ⟨N1, hN1⟩, hk⟩ := one_step (hz _ fun _ _ h => h)
    obtain ⟨tr, ⟨N2, hN2⟩, hlen, tm', h', ht, hzz⟩ := seg_trace (b := b + 1) (fun i hi => by
      have := hl (i + 1) (by simp; omega)
      simp only [List.getElem?_cons_succ] at this
      rw [← this]; congr 1; omega) hk
    have h0 : ops[b]? = some o := by simpa using hl 0 (by simp)
    have hr : (List.range (o :: l).length).map (b + ·) = b :: (List.range l.length).map (b + 1 + ·) := by
      rw [List.length_cons, List.range_succ_eq_map]
      simp [Function.comp_def, Nat.add_assoc, Nat.add_comm]
      intros; omega
    have htr0 : ∃ r, tr = (tm1, h1) :: r := by
      have e := hN2 (max N1 N2) (by omega)
      cases l with
      | nil => simp [regTrace] at e; exact ⟨[], by rw [← e]⟩
      | cons x l' =>
        rw [List.length_cons, List.range_succ_eq_map] at e
        simp only [List.map_cons, regTrace] at e
        split at e
        · simp at e
        · obtain ⟨r, _, h2⟩ := Option.map_eq_some_iff.1 e
          exact ⟨r, h2.symm⟩
    obtain ⟨r, rfl⟩ := htr0
    refine ⟨(tm, h) :: (tm1, h1) :: r, ⟨max N1 N2, fun n hn => ?_⟩, by simp at hlen ⊢; omega, tm', h', by simpa using ht, ?_⟩
    · rw [hr]
      simp only [regTrace, regStep_stepL h0, hN1 n (by omega), hN2 n (by omega), Option.map_some]
    · simpa using hzz
theorem regDraw_loose {S : Sys} {ops : Array Oper} {tm : Tm} {h : AH} {tr : List (Tm × AH)} {ps : List (Nat × Nat)} {r : Tm × AH} (hl : looseB T ops.toList ps = true) (htr : regTrace T S ops (List.range ops.size) tm h = some tr) (hlast : tr[ops.size]? = some r)
    (hob : obls T ops (tr.map (·.2)) r.1 ps) : regDraw T S ops tm h = some r := by
  unfold looseB at hl
  simp only [Bool.and_eq_true, List.all_eq_true] at hl
  obtain ⟨⟨hd, hsub⟩, hst⟩ := hl
  have D := drawOk_DOk hd
  have H := regTrace_TrOk htr
  unfold regDraw
  simp only [hd, if_true, htr]
  have hlo : looseOk T ops (masks ops.toList []) tr = true := by
    unfold looseOk
    rw [List.all_eq_true]
    intro i hi
    have hil : i < ops.size := by simpa using hi
    have ho : ops[i]? = some ops[i] := Array.getElem?_eq_getElem _
    unfold looseAt
    rw [ho, H.get i (by omega)]
    simp only
    split
    · rename_i hc
      rw [List.all_eq_true]
      intro p hp
      split
      · rename_i hmay
        have hps : p ≤ ops.size := by
          unfold placesOf at hp
          rcases List.mem_cons.1 hp with rfl | hp
          · omega
          · obtain ⟨e, he, hx⟩ := List.mem_filterMap.1 hp
            have : e < ops.size := by simpa using he
            split at hx
            · simp at hx
            · split at hx <;> simp at hx; omega
        rw [H.get p hps]
        simp only
        obtain ⟨v, hput, hst'⟩ := H.at ho
        have hst' : wantedA ops ops[i] (tr.getD i (tm, h)).1 = true ∧ stepOp T S (tr.getD i (tm, h)).1.get ops[i] (tr.getD i (tm, h)).2 = some (v, (tr.getD (i + 1) (tm, h)).2) := by
          rcases hst' with hst' | hst'
          · exact hst'
          · rw [hc.2] at hst'; simp at hst'
        have hev := (stepOp_quiet (by omega) hst'.2).2
        cases hq : quietB T ops.toList i p with
        | true =>
          have hsame : (tr.getD p (tm, h)).2 = (tr.getD i (tm, h)).2 := by
            unfold quietB at hq
            rw [List.all_eq_true] at hq
            have quiet : ∀ (j : Nat) (o : Oper), ops[j]? = some o → ((p ≤ j ∧ j < i) ∨ (i ≤ j ∧ j < p)) → kindOf T o.op ≤ 1 := by
              intro j o hj hjj
              have hjl := (Array.getElem?_eq_some_iff.1 hj).1
              have h2 := hq j (by simpa using hjl)
              rw [toL hj] at h2
              have hk := D.kind j o (toL hj)
              simp only [Bool.or_eq_true, Bool.not_eq_true', decide_eq_false_iff_not, Bool.or_eq_false_iff, Bool.and_eq_false_iff] at h2
              omega
            rcases Nat.le_total p i with hpi | hpi
            · exact (H.stayH i hpi (by omega) fun j o h1 h2 h3 => quiet j o h3 (.inl ⟨h1, h2⟩)).symm
            · exact H.stayH p hpi hps fun j o h1 h2 h3 => quiet j o h3 (.inr ⟨h1, h2⟩)
          rw [hsame]
          unfold seesSame
          rw [hev]
          exact AV.same_self v
        | false =>
          have hin : (i, p) ∈ loosePairs T ops.toList := by
            unfold loosePairs
            refine List.mem_flatMap.2 ⟨i, by simpa using hil, ?_⟩
            rw [toL ho]
            simp only [if_pos hc.1]
            exact List.mem_filterMap.2 ⟨p, hp, by rw [hmay, hq]; rfl⟩
          have hps2 : (i, p) ∈ ps := by simpa using hsub _ hin
          have hstd := hst _ hps2
          simp only [toL ho] at hstd
          obtain ⟨hs1, hs2⟩ := hstd
          obtain ⟨d, hd'⟩ := Option.isSome_iff_exists.1 hs2
          have ob := obls_mem hob _ hps2
          unfold obl1 at ob
          have hX : (fun i => tr.getD i (tm, h)) ops.size = r := by simp [List.getD, hlast]
          have hXr : tr.getD ops.size (tm, h) = r := hX
          have hpm : (tr.map (·.2))[p]? = some (tr.getD p (tm, h)).2 := by rw [List.getElem?_map, H.get p hps]; rfl
          simp only [ho, hpm] at ob
          -- what the look needs is the same at the end
          have steady : ∀ (j : Nat) (x : Oper) (dx : Nat), i ≤ j → ops[j]? = some x → x.dst = some dx → (looks ops.toList ops[i]).contains dx = false ∧ (j = i ∨ dx ≠ d) := by
            intro j x dx hij hj hdx
            unfold steadyB at hs1
            rw [toL ho] at hs1
            simp only [List.all_eq_true] at hs1
            have hjl := (Array.getElem?_eq_some_iff.1 hj).1
            have := hs1 j (by simpa using hjl)
            rw [if_pos hij, toL hj] at this
            simp only [hdx, Bool.and_eq_true, Bool.not_eq_true', Bool.or_eq_true, decide_eq_true_eq, hd'] at this
            refine ⟨this.1, ?_⟩
            rcases this.2 with e | e
            · exact .inl e
            · exact .inr fun e2 => by subst e2; simp at e
          have hlook : ∀ t, (looks ops.toList ops[i]).contains t = true → r.1.get t = (tr.getD i (tm, h)).1.get t := by
            intro t ht
            rw [← hXr]
            refine H.stayT ops.size (by omega) (Nat.le_refl _) fun j o hij hj ho' e => ?_
            have := (steady j o t hij ho' e).1
            rw [ht] at this; simp at this
          have hev2 : ∀ hh : AH, evalOp T r.1.get ops[i] hh = evalOp T (tr.getD i (tm, h)).1.get ops[i] hh := by
            intro hh
            refine evalOp_congr (fun x hx => ?_) (by omega)
            cases x with
            | tmp t =>
              have := hlook t (by
                unfold looks
                rw [List.contains_iff_mem]
                exact List.mem_append_left _ (List.mem_filterMap.2 ⟨.tmp t, by simpa using hx, rfl⟩))
              simp only [ev, this]
            | _ => rfl
          have hwant : wantedA ops ops[i] r.1 = true := by
            rw [← hc.2]
            unfold wantedA
            cases hg : ops[i].guard with
            | none => rfl
            | some g =>
              obtain ⟨j, w⟩ := g
              dsimp only
              cases hgd : (ops[j]?).bind (·.dst) with
              | none => rfl
              | some dg =>
                dsimp only
                have : r.1.get dg = (tr.getD i (tm, h)).1.get dg := by
                  refine hlook dg ?_
                  unfold looks
                  rw [List.contains_iff_mem, hg]
                  refine List.mem_append_right _ ?_
                  simp only [Array.getElem?_toList] at *
                  rw [hgd]; simp
                rw [this]
          have hdst : r.1.get d = v := by
            have h1 : (tr.getD (i + 1) (tm, h)).1.get d = v := by
              have := hput
              rw [hd'] at this
              simp only [Tm.put] at this
              split at this
              · have := Option.some.inj this
                rw [← this, Tm.get_set, if_pos rfl]
              · simp at this
            rw [← h1, ← hXr]
            refine H.stayT ops.size (by omega) (Nat.le_refl _) fun j o hij hj ho' e => ?_
            rcases (steady j o d (by omega) ho' e).2 with e2 | e2
            · omega
            · exact e2 rfl
          have ob := ob hwant
          rw [hev2, hd', Option.getD_some, hdst] at ob
          unfold seesSame
          rw [hev]
          unfold seeV at ob
          split at ob
          · rename_i v2 h2 hv2
            simp at ob; subst ob
            rw [hv2]
            exact AV.same_self _
          · simp at ob
      · rfl
    · rfl
  rw [if_pos hlo]
  exact hlast
theorem c_loose {rd : Option Nat} {Q : Ex → St → Prop} {id : Nat} {ops : List Oper} {tm : Tm} {mk : List Nat} {h : AH} (ps : List (Nat × Nat)) (hl : looseB T ops ps = true)
    (hw : Seg P T ops.toArray ops [h] (fun hs tm h => obls T ops.toArray hs tm ps ∧ Q .normal ⟨tm, mk, h⟩) tm h) : wp P T rd (.region id ops.toArray true) Q ⟨tm, mk, h⟩ := by
  obtain ⟨tr, ⟨N, hN⟩, hlen, tm', h', ht, hob, hq⟩ := seg_trace (b := 0) (by simp) hw
  have hr : (List.range ops.length).map (0 + ·) = List.range ops.toArray.size := by simp
  rw [hr] at hN
  refine ⟨.normal, _, ⟨N, fun n hn => ?_⟩, hq⟩
  have htr := hN n hn
  have hob2 : obls T ops.toArray (tr.map (·.2)) (tm', h').1 ps := by
    have : [h] ++ (tr.map (·.2)).tail = tr.map (·.2) := by
      have h0 := regTrace_TrOk htr
      have := h0.get 0 (by omega)
      cases tr with
      | nil => simp at this
      | cons x r =>
        have e := h0.zero
        simp at e
        simp [e]
    rw [this] at hob
    exact hob
  simp only [runCode, if_true, regDraw_loose (S := sysA P T n) (ops := ops.toArray) (by simpa using hl) htr (by simpa using ht) hob2]
theorem c_looseW {rd : Option Nat} {Q : Ex → St → Prop} {id : Nat} {ops : List Oper} {tm : Tm} {mk : List Nat} {h : AH} (ps : List (Nat × Nat)) (hl : looseB T ops ps = true)
    (hw : Seg P T ops.toArray ops [h] (fun hs tm h => obls T ops.toArray hs tm ps ∧ Q .normal ⟨tm, mk, h⟩) tm h) : codeW P T rd (.region id ops.toArray true) Q ⟨tm, mk, h⟩ := .inr (c_loose ps hl hw)
theorem seg_nil {ops : Array Oper} {hs : List AH} {Z : List AH → Tm → AH → Prop} {tm : Tm} {h : AH} (hz : Z hs tm h) : Seg P T ops [] hs Z tm h := hz
theorem obl_and {ops : Array Oper} {hs : List AH} {tm : Tm} {ps : List (Nat × Nat)} {X : Prop} (h1 : obls T ops hs tm ps) (h2 : X) : obls T ops hs tm ps ∧ X := ⟨h1, h2⟩
theorem wanted_none {ops : Array Oper} {d : Option Nat} {op : Op} {ty : TypeId} {pos : String} {aft : Array Edge} {tm : Tm} : wantedA ops ⟨d, op, ty, pos, aft, none⟩ tm = true := rfl
theorem wanted_some {ops : Array Oper} {d : Option Nat} {op : Op} {ty : TypeId} {pos : String} {aft : Array Edge} {j : Nat} {w : Bool} {tm : Tm} : wantedA ops ⟨d, op, ty, pos, aft, some (j, w)⟩ tm = guardB (guardOf ops j) tm w := by
  simp only [wantedA, guardB, guardOf]
  cases (ops[j]?).bind (·.dst) <;> rfl
theorem obls_nil {ops : Array Oper} {hs : List AH} {tm : Tm} : obls T ops hs tm [] = True := rfl
def oblR (T : Tys) (ops : Array Oper) (tm : Tm) (o : Option Oper) (h : Option AH) : Prop := match o, h with
  | some o, some h' => wantedA ops o tm = true → seeV (evalOp T tm.get o h') = some (tm.get (o.dst.getD 0))
  | _, _ => False
theorem obls_cons {ops : List Oper} {hs : List AH} {tm : Tm} {i p : Nat} {r : List (Nat × Nat)} : obls T ops.toArray hs tm ((i, p) :: r) = (oblR T ops.toArray tm ops[i]? hs[p]? ∧ obls T ops.toArray hs tm r) := by
  simp [obls, obl1, oblR]
theorem oblR_some {ops : Array Oper} {tm : Tm} {o : Oper} {h : AH} : oblR T ops tm (some o) (some h) = (wantedA ops o tm = true → seeV (evalOp T tm.get o h) = some (tm.get (o.dst.getD 0))) := rfl
attribute [go_sem] seeV_some and_true true_and forall_const and_self wanted_none wanted_some obls_nil obls_cons oblR_some seeV_val seeV_pair
end loose
end Go.Abs
