/- Regions that draw their order: whatever order is drawn, the abstract machine's one answer holds. -/
import Derived.Test.YtanbckdhlmhdeaaAbsCall
set_option linter.unusedSimpArgs false
set_option linter.unusedVariables false
namespace Go.Abs
open Go.RowKit

section pure
variable {T : Tys} {e e' : Env}

theorem ev_congr {x : Operand} (h : ∀ t, x = .tmp t → e t = e' t) : ev e x = ev e' x := by
  cases x <;> simp [ev]
  exact h _ rfl
theorem evs_congr : ∀ {l : List Operand}, (∀ x ∈ l, ev e x = ev e' x) → evs e l = evs e' l
  | [], _ => rfl
  | x :: r, h => by
    simp only [evs, h x List.mem_cons_self, evs_congr fun y hy => h y (List.mem_cons_of_mem _ hy)]
theorem evParts_congr : ∀ {l : List (Nat × Operand)}, (∀ x ∈ l.map (·.2), ev e x = ev e' x) → evParts e l = evParts e' l
  | [], _ => rfl
  | (i, x) :: r, h => by
    simp only [evParts, h x (by simp), evParts_congr (l := r) fun y hy => h y (by simp only [List.map_cons]; exact List.mem_cons_of_mem _ hy)]
theorem evO_congr {x : Option Operand} (h : ∀ y, x = some y → ev e y = ev e' y) : evO e x = evO e' x := by
  cases x <;> simp [evO]
  rw [h _ rfl]
theorem evalOp_congr {o : Oper} {h : AH} (hx0 : ∀ x ∈ o.op.operands, ev e x = ev e' x) (hk : kindOf T o.op ≤ 2) : evalOp T e o h = evalOp T e' o h := by
  obtain ⟨dst, op, type, pos, after, guard⟩ := o
  simp only at hx0 hk
  cases op
  case move x => simp only [evalOp, hx0 x (by simp [Op.operands])]
  case assign x => simp only [evalOp, hx0 x (by simp [Op.operands])]
  case pick a b c => simp only [evalOp, hx0 a (by simp [Op.operands]), hx0 b (by simp [Op.operands]), hx0 c (by simp [Op.operands])]
  case alloc => rfl
  case box t x => simp only [evalOp, hx0 x (by simp [Op.operands])]
  case build t ps =>
    simp only [evalOp]
    rw [evParts_congr (fun x hx => hx0 x (by simpa [Op.operands] using hx))]
  case buildSlice t n ps =>
    simp only [evalOp]
    rw [evParts_congr (fun x hx => hx0 x (by simpa [Op.operands] using hx))]
  case load t x => simp only [evalOp, hx0 x (by simp [Op.operands])]
  case store t a x => simp only [evalOp, hx0 a (by simp [Op.operands]), hx0 x (by simp [Op.operands])]
  case nilCheck x => simp only [evalOp, hx0 x (by simp [Op.operands])]
  case binOp op t x y pos => simp only [evalOp, hx0 x (by simp [Op.operands]), hx0 y (by simp [Op.operands])]
  case unOp op t x => simp only [evalOp, hx0 x (by simp [Op.operands])]
  case convert s d x => simp only [evalOp, hx0 x (by simp [Op.operands])]
  case makeFunc f first cap =>
    cases f with
    | func f =>
      simp only [evalOp]
      rw [evs_congr (fun x hx => hx0 x (by simp [Op.operands]; right; simpa using hx))]
    | _ => rfl
  case makeSlice t l c => simp only [evalOp, hx0 l (by simp [Op.operands]), hx0 c (by simp [Op.operands])]
  case slice t x lo hi mx =>
    simp only [evalOp, hx0 x (by simp [Op.operands])]
    rw [evO_congr (x := lo) (fun y hy => hx0 y (by simp [Op.operands, hy])), evO_congr (x := hi) (fun y hy => hx0 y (by simp [Op.operands, hy])), evO_congr (x := mx) (fun y hy => hx0 y (by simp [Op.operands, hy]))]
  case fieldAddr s x f => simp only [evalOp, hx0 x (by simp [Op.operands])]
  case field s x f => simp only [evalOp, hx0 x (by simp [Op.operands])]
  case indexAddr t x ix => simp only [evalOp, hx0 x (by simp [Op.operands]), hx0 ix (by simp [Op.operands])]
  case index t x ix => simp only [evalOp, hx0 x (by simp [Op.operands]), hx0 ix (by simp [Op.operands])]
  case extract t ix => simp only [evalOp, hx0 t (by simp [Op.operands])]
  case call c =>
    simp only [evalOp]
    have ha : ∀ x ∈ c.args.toList, ev e x = ev e' x := fun x hx => hx0 x (by simp only [Op.operands, Call.operands]; cases c.callee <;> simp <;> first | exact hx | exact .inr (by simpa using hx) | (simpa using hx))
    rw [evs_congr ha]
    cases hc : c.callee with
    | value f =>
      have hf := hx0 f (by simp [Op.operands, Call.operands, hc])
      cases evs e' c.args.toList with
      | none => rfl
      | some args => simp only [hf]
    | _ => cases evs e' c.args.toList <;> rfl
  all_goals simp [kindOf] at hk

theorem map_val {h : AH} {r : OpR} {x : Option AV} (hr : (x.map fun a => OpR.val a h) = some r) : ∃ v, r = .val v h ∧ ∀ h', (x.map fun a => OpR.val a h') = some (.val v h') := by
  cases x with
  | none => simp at hr
  | some a => simp at hr; exact ⟨a, hr.symm, fun _ => rfl⟩
/-- No look at memory, no change of it. -/
theorem kind0 {o : Oper} {h : AH} {r : OpR} (hk : kindOf T o.op = 0) (hr : evalOp T e o h = some r) : ∃ v, r = .val v h ∧ ∀ h', evalOp T e o h' = some (.val v h') := by
  obtain ⟨dst, op, type, pos, after, guard⟩ := o
  simp only at hk
  cases op <;> simp only [evalOp] at hr ⊢
  case convert s d x =>
    split at hr
    · rename_i a ha
      obtain ⟨⟨v, h2⟩, h3, h4⟩ := Option.map_eq_some_iff.1 hr
      refine ⟨v, ?_⟩
      have key : h2 = h ∧ ∀ h', convA T h' s d a = some (v, h') := by
        unfold convA at h3 ⊢
        simp only [kindOf] at hk
        split at h3
        · simp at h3
        · simp only [Option.some.injEq, Prod.mk.injEq] at h3; obtain ⟨rfl, rfl⟩ := h3; exact ⟨rfl, fun _ => rfl⟩
        · simp only [Option.some.injEq, Prod.mk.injEq] at h3; obtain ⟨rfl, rfl⟩ := h3; exact ⟨rfl, fun _ => rfl⟩
        · simp_all
        · simp_all
        · simp_all
        · simp at h3
      refine ⟨by rw [← h4, key.1], fun h' => by rw [key.2 h']; rfl⟩
    · simp at hr
  case call c =>
    simp only [kindOf] at hk
    split at hr
    · rename_i b args hc ha
      rw [hc] at hk
      obtain ⟨⟨v, h2⟩, h3, h4⟩ := Option.map_eq_some_iff.1 hr
      refine ⟨v, ?_⟩
      have key : h2 = h ∧ ∀ h', builtinA T h' b c.argTypes.toList args = some (v, h') := by
        unfold builtinA at h3 ⊢
        split at h3
        · simp at hk
        · split at h3
          · simp only [Option.some.injEq, Prod.mk.injEq] at h3; obtain ⟨rfl, rfl⟩ := h3; exact ⟨rfl, fun _ => rfl⟩
          · simp only [Option.some.injEq, Prod.mk.injEq] at h3; obtain ⟨rfl, rfl⟩ := h3; exact ⟨rfl, fun _ => rfl⟩
          · simp only [Option.some.injEq, Prod.mk.injEq] at h3; obtain ⟨rfl, rfl⟩ := h3; exact ⟨rfl, fun _ => rfl⟩
          · simp at h3
        · simp at hk
        · simp at hk
        · simp only [Option.some.injEq, Prod.mk.injEq] at h3; obtain ⟨rfl, rfl⟩ := h3; exact ⟨rfl, fun _ => rfl⟩
        · simp only [Option.some.injEq, Prod.mk.injEq] at h3; obtain ⟨rfl, rfl⟩ := h3; exact ⟨rfl, fun _ => rfl⟩
        · simp at h3
      refine ⟨by rw [← h4, key.1], fun h' => by rw [key.2 h']; rfl⟩
    · rename_i f args hc ha
      rw [hc] at hk
      simp at hk
    · simp at hr
  all_goals try (simp [kindOf] at hk; done)
  case makeFunc fn first cap =>
    cases fn with
    | func f =>
      simp only at hr ⊢
      split at hr
      · rename_i hz
        simp only [if_pos hz]
        exact map_val hr
      · simp at hr
    | _ => simp at hr
  all_goals try exact map_val hr
  all_goals try (split at hr <;> first | exact map_val hr | (simp at hr; done) | skip)
  all_goals try (split at hr <;> first | exact map_val hr | (simp at hr; done) | skip)
  all_goals try (split at hr <;> first | exact map_val hr | (simp at hr; done) | skip)
  all_goals try (split at hr <;> first | exact map_val hr | (simp at hr; done) | skip)
  all_goals try (split at hr <;> first | exact map_val hr | (simp at hr; done) | skip)
  all_goals try (exact ⟨_, (Option.some.inj hr).symm, fun h' => by simp only [*, if_true, and_self, if_false]⟩)
  all_goals try (exact ⟨_, (Option.some.inj hr).symm, fun h' => by simp [*]⟩)
  all_goals try (simp only [*, if_true, and_self, if_false]; exact map_val hr)
theorem kind1 {o : Oper} {h : AH} {r : OpR} (hk : kindOf T o.op = 1) (hr : evalOp T e o h = some r) : ∃ v, r = .val v h := by
  obtain ⟨dst, op, type, pos, after, guard⟩ := o
  simp only at hk
  cases op <;> simp only [evalOp] at hr
  case load t x =>
    split at hr
    · obtain ⟨v, h1, _⟩ := map_val hr; exact ⟨v, h1⟩
    · simp at hr
  case convert s d x =>
    split at hr
    · rename_i a ha
      obtain ⟨⟨v, h2⟩, h3, h4⟩ := Option.map_eq_some_iff.1 hr
      refine ⟨v, ?_⟩
      have key : h2 = h := by
        simp only [kindOf] at hk
        split at hk
        · rename_i e1 e2
          unfold convA at h3
          simp only [e1, e2] at h3
          split at h3
          all_goals first | (simp_all; done) | skip
          split at h3
          · split at h3
            · simp at h3
            · split at h3
              · obtain ⟨w, _, hw⟩ := Option.map_eq_some_iff.1 h3; simp at hw; exact hw.2.symm
              · simp at h3
            · simp at h3
          · simp at h3
        · simp at hk
        · simp at hk
      rw [← h4, key]
    · simp at hr
  case call c =>
    simp only [kindOf] at hk
    split at hk <;> simp at hk
  all_goals simp [kindOf] at hk

theorem stepOp_congr {S : Sys} {o : Oper} {h : AH} (hx0 : ∀ x ∈ o.op.operands, ev e x = ev e' x) (hk : kindOf T o.op ≤ 2) : stepOp T S e o h = stepOp T S e' o h := by
  unfold stepOp; rw [evalOp_congr hx0 hk]
theorem stepOp_val {S : Sys} {o : Oper} {h h2 : AH} {v : AV} (hr : evalOp T e o h = some (.val v h2)) : stepOp T S e o h = some (v, h2) := by
  unfold stepOp; rw [hr]

/-! ### What 'drawOk' says -/
structure DOk (T : Tys) (ops : List Oper) (m : List Nat) : Prop where
  lt : ∀ (i : Nat) (o : Oper), ops[i]? = some o → ∀ x ∈ preds o, x < i
  step : ∀ (i : Nat) (o : Oper) (j : Nat), ops[i]? = some o → j < ops.length → ordered m i j = true → ∃ x ∈ preds o, x = j ∨ ordered m x j = true
  kind : ∀ (i : Nat) (o : Oper), ops[i]? = some o → kindOf T o.op ≤ 2
  eff : ∀ (i : Nat) (o : Oper) (j : Nat) (p : Oper), ops[i]? = some o → ops[j]? = some p → j < i → kindOf T o.op = 2 → kindOf T p.op = 2 → ordered m i j = true
  shr : ∀ (i : Nat) (o : Oper) (j : Nat) (p : Oper), ops[i]? = some o → ops[j]? = some p → j < i → share ops o p = true → ordered m i j = true
theorem drawsOk_mem {ops : List Oper} {m : List Nat} : ∀ {l : List Nat}, drawsOk T ops m l = true → ∀ i ∈ l, ∃ o, ops[i]? = some o ∧ drawAt T ops m i o = true
  | [], _, i, hi => by simp at hi
  | k :: r, h, i, hi => by
    simp only [drawsOk, Bool.and_eq_true] at h
    rcases List.mem_cons.1 hi with rfl | hi
    · revert h
      cases ho : ops[i]? with
      | none => intro h; simp at h
      | some o => intro h; exact ⟨o, rfl, h.1⟩
    · exact drawsOk_mem h.2 i hi
theorem drawOk_DOk {ops : List Oper} (h : drawOk T ops = true) : DOk T ops (masks ops []) := by
  have key : ∀ i o, ops[i]? = some o → drawAt T ops (masks ops []) i o = true := by
    intro i o ho
    have hlt := (List.getElem?_eq_some_iff.1 ho).1
    obtain ⟨o', ho', hd⟩ := drawsOk_mem h i (List.mem_range.2 hlt)
    rw [ho] at ho'; cases ho'; exact hd
  generalize masks ops [] = m at key
  refine ⟨?_, ?_, ?_, ?_, ?_⟩
  · intro i o ho x hx
    have := key i o ho
    simp only [drawAt, Bool.and_eq_true, List.all_eq_true, decide_eq_true_eq] at this
    exact this.1.1.1 x hx
  · intro i o j ho hj hij
    have := key i o ho
    simp only [drawAt, Bool.and_eq_true, List.all_eq_true, decide_eq_true_eq] at this
    have := this.1.1.2 j (List.mem_range.2 hj)
    rw [hij] at this
    simp at this
    exact this
  · intro i o ho
    have := key i o ho
    simp only [drawAt, Bool.and_eq_true, List.all_eq_true, decide_eq_true_eq] at this
    exact this.1.2
  · intro i o j p ho hp hji h1 h2
    have := key i o ho
    simp only [drawAt, Bool.and_eq_true, List.all_eq_true, decide_eq_true_eq] at this
    have := this.2 j (List.mem_range.2 hji)
    rw [hp] at this
    simp [h1, h2] at this
    exact this.1
  · intro i o j p ho hp hji hs
    have := key i o ho
    simp only [drawAt, Bool.and_eq_true, List.all_eq_true, decide_eq_true_eq] at this
    have := this.2 j (List.mem_range.2 hji)
    rw [hp] at this
    simp [hs] at this
    exact this.2

/-! ### The trace -/
structure TrOk (T : Tys) (S : Sys) (ops : Array Oper) (tr : List (Tm × AH)) (tm : Tm) (h : AH) (X : Nat → Tm × AH) : Prop where
  zero : X 0 = (tm, h)
  step : ∀ i, i < ops.size → regStep T S ops i (X i).1 (X i).2 = some (X (i + 1))
  get : ∀ i, i ≤ ops.size → tr[i]? = some (X i)
theorem regTrace_spec {S : Sys} {ops : Array Oper} : ∀ (l : List Nat) {tm : Tm} {h : AH} {tr : List (Tm × AH)}, regTrace T S ops l tm h = some tr →
    tr.length = l.length + 1 ∧ tr[0]? = some (tm, h) ∧ ∀ k i, l[k]? = some i → ∃ a b c, tr[k]? = some (a, b) ∧ tr[k+1]? = some c ∧ regStep T S ops i a b = some c
  | [], tm, h, tr, hr => by simp [regTrace] at hr; subst hr; simp
  | i :: l, tm, h, tr, hr => by
    simp only [regTrace] at hr
    split at hr
    · simp at hr
    · rename_i tm' h' hst
      obtain ⟨tr', h1, h2⟩ := Option.map_eq_some_iff.1 hr
      subst h2
      obtain ⟨k1, k2, k3⟩ := regTrace_spec l h1
      refine ⟨by simp [k1], rfl, ?_⟩
      intro k j hk
      cases k with
      | zero => simp at hk; subst hk; exact ⟨tm, h, (tm', h'), rfl, by simpa using k2, hst⟩
      | succ k => simpa using k3 k j (by simpa using hk)
theorem regTrace_TrOk {S : Sys} {ops : Array Oper} {tm : Tm} {h : AH} {tr : List (Tm × AH)} (hr : regTrace T S ops (List.range ops.size) tm h = some tr) : TrOk T S ops tr tm h (fun i => tr.getD i (tm, h)) := by
  obtain ⟨k1, k2, k3⟩ := regTrace_spec _ hr
  have hg : ∀ i c, tr[i]? = some c → tr.getD i (tm, h) = c := fun i c hc => by simp [List.getD, hc]
  refine ⟨hg 0 _ k2, ?_, ?_⟩
  · intro i hi
    obtain ⟨a, b, c, h1, h2, h3⟩ := k3 i i (by simp [hi])
    rw [hg i _ h1, hg (i+1) _ h2]
    exact h3
  · intro i hi
    have : i < tr.length := by rw [k1]; simp; omega
    rw [List.getD_eq_getElem?_getD, List.getElem?_eq_getElem this]
    rfl

section tr
variable {S : Sys} {ops : Array Oper} {tr : List (Tm × AH)} {tm : Tm} {h : AH} {X : Nat → Tm × AH}
theorem put_size {t t' : Tm} {d : Option Nat} {v : AV} (hp : t.put d v = some t') : t'.size = t.size := by
  cases d with
  | none => simp [Tm.put] at hp; rw [hp]
  | some d => simp only [Tm.put] at hp; split at hp <;> simp at hp; rw [← hp]; rfl
theorem put_get {t t' : Tm} {d : Option Nat} {v : AV} (hp : t.put d v = some t') (k : Nat) : t'.get k = if d = some k then v else t.get k := by
  cases d with
  | none => simp [Tm.put] at hp; simp [hp]
  | some d =>
    simp only [Tm.put] at hp
    split at hp
    · simp at hp; rw [← hp, Tm.get_set]
      by_cases e : k = d
      · subst e; simp
      · rw [if_neg e, if_neg (by simpa using fun x => e x.symm)]
    · simp at hp
theorem put_some {t s t' : Tm} {d : Option Nat} {v : AV} (hs : s.size = t.size) (hp : t.put d v = some t') (u : AV) : ∃ s', s.put d u = some s' := by
  cases d with
  | none => exact ⟨s, rfl⟩
  | some d => simp only [Tm.put] at hp ⊢; rw [hs]; split at hp <;> simp at hp; rename_i hlt; rw [if_pos hlt]; exact ⟨_, rfl⟩
/-- One step of the trace: what is written, and what memory becomes. -/
theorem TrOk.at (H : TrOk T S ops tr tm h X) {i : Nat} {o : Oper} (ho : ops[i]? = some o) : ∃ v, (X i).1.put o.dst v = some (X (i + 1)).1 ∧
    ((wantedA ops o (X i).1 = true ∧ stepOp T S (X i).1.get o (X i).2 = some (v, (X (i + 1)).2)) ∨ (wantedA ops o (X i).1 = false ∧ v = undefA ∧ (X (i + 1)).2 = (X i).2)) := by
  have := H.step i (Array.getElem?_eq_some_iff.1 ho).1
  unfold regStep at this
  simp only [ho] at this
  split at this
  · rename_i hw
    split at this
    · simp at this
    · rename_i v h' hst
      obtain ⟨t, h1, h2⟩ := Option.map_eq_some_iff.1 this
      rw [← h2]
      exact ⟨v, h1, .inl ⟨hw, hst⟩⟩
  · rename_i hw
    obtain ⟨t, h1, h2⟩ := Option.map_eq_some_iff.1 this
    rw [← h2]
    exact ⟨_, h1, .inr ⟨by simpa using hw, rfl, rfl⟩⟩
theorem stepOp_quiet {o : Oper} {h h' : AH} {v : AV} (hk : kindOf T o.op ≤ 1) (hst : stepOp T S e o h = some (v, h')) : h' = h ∧ evalOp T e o h = some (.val v h) := by
  unfold stepOp at hst
  have hk2 : kindOf T o.op = 0 ∨ kindOf T o.op = 1 := by omega
  cases hev : evalOp T e o h with
  | none => rw [hev] at hst; simp at hst
  | some r =>
    rw [hev] at hst
    have : ∃ v, r = .val v h := by
      rcases hk2 with hk | hk
      · obtain ⟨v, h1, _⟩ := kind0 hk hev; exact ⟨v, h1⟩
      · exact kind1 hk hev
    obtain ⟨u, rfl⟩ := this
    simp at hst
    obtain ⟨rfl, rfl⟩ := hst
    exact ⟨rfl, rfl⟩
theorem TrOk.size (H : TrOk T S ops tr tm h X) : ∀ i, i ≤ ops.size → (X i).1.size = tm.size
  | 0, _ => by rw [H.zero]
  | i + 1, hi => by
    obtain ⟨v, hp, _⟩ := H.at (i := i) (o := ops[i]) (Array.getElem?_eq_getElem _)
    rw [put_size hp, H.size i (by omega)]
theorem TrOk.stayT (H : TrOk T S ops tr tm h X) {a d : Nat} : ∀ b, a ≤ b → b ≤ ops.size → (∀ j o, a ≤ j → j < b → ops[j]? = some o → o.dst ≠ some d) → (X b).1.get d = (X a).1.get d := by
  intro b
  induction b with
  | zero => intro h1 _ _; have : a = 0 := by omega
            rw [this]
  | succ b ih =>
    intro h1 h2 hn
    by_cases e : a = b + 1
    · rw [e]
    · rw [← ih (by omega) (by omega) (fun j o h3 h4 h5 => hn j o h3 (by omega) h5)]
      have ho : ops[b]? = some ops[b] := Array.getElem?_eq_getElem _
      obtain ⟨v, hp, _⟩ := H.at ho
      rw [put_get hp, if_neg (hn b _ (by omega) (by omega) ho)]
theorem TrOk.stayH (H : TrOk T S ops tr tm h X) {a : Nat} : ∀ b, a ≤ b → b ≤ ops.size → (∀ j o, a ≤ j → j < b → ops[j]? = some o → kindOf T o.op ≤ 1) → (X b).2 = (X a).2 := by
  intro b
  induction b with
  | zero => intro h1 _ _; have : a = 0 := by omega
            rw [this]
  | succ b ih =>
    intro h1 h2 hn
    by_cases e : a = b + 1
    · rw [e]
    · rw [← ih (by omega) (by omega) (fun j o h3 h4 h5 => hn j o h3 (by omega) h5)]
      have ho : ops[b]? = some ops[b] := Array.getElem?_eq_getElem _
      obtain ⟨v, hp, h4 | h4⟩ := H.at ho
      · exact (stepOp_quiet (hn b _ (by omega) (by omega) ho) h4.2).1
      · exact h4.2.2
end tr

/-! ### What has been listed -/
section inv
variable {S : Sys} {ops : Array Oper} {tr : List (Tm × AH)} {tm : Tm} {h : AH} {X : Nat → Tm × AH} {m : List Nat}
def Li (L : Array Bool) (i : Nat) : Prop := L.getD i false = true
theorem Li_lt {L : Array Bool} {i : Nat} (h : Li L i) : i < L.size := by
  unfold Li at h
  simp only [Array.getD] at h
  split at h
  · assumption
  · simp at h
theorem Li_set {L : Array Bool} {i j : Nat} (hi : i < L.size) : Li (L.setIfInBounds i true) j ↔ j = i ∨ Li L j := by
  unfold Li
  simp only [Array.getD_eq_getD_getElem?, Array.getElem?_setIfInBounds]
  by_cases e : i = j
  · subst e; simp [hi]
  · rw [if_neg e]
    constructor
    · exact .inr
    · rintro (rfl | h)
      · exact absurd rfl e
      · exact h
structure Inv (T : Tys) (ops : Array Oper) (X : Nat → Tm × AH) (L : Array Bool) (tmc : Tm) (hc : AH) : Prop where
  size : L.size = ops.size
  closed : ∀ (i : Nat) (o : Oper), Li L i → ops[i]? = some o → ∀ x ∈ preds o, Li L x
  tsize : tmc.size = (X 0).1.size
  tmv : ∀ d, ∃ g, g ≤ ops.size ∧ tmc.get d = (X g).1.get d ∧ (∀ (j : Nat) (o : Oper), ops[j]? = some o → o.dst = some d → Li L j → j < g) ∧ (g = 0 ∨ ∃ (k : Nat) (o : Oper), g = k + 1 ∧ Li L k ∧ ops[k]? = some o ∧ o.dst = some d)
  heap : ∃ g, g ≤ ops.size ∧ hc = (X g).2 ∧ (∀ (j : Nat) (o : Oper), ops[j]? = some o → kindOf T o.op = 2 → Li L j → j < g) ∧ (g = 0 ∨ ∃ (k : Nat) (o : Oper), g = k + 1 ∧ Li L k ∧ ops[k]? = some o ∧ kindOf T o.op = 2)

theorem Inv.start (H : TrOk T S ops tr tm h X) : Inv T ops X (Array.replicate ops.size false) tm h := by
  have hn : ∀ i, ¬ Li (Array.replicate ops.size false) i := by
    intro i hi
    unfold Li at hi
    simp only [Array.getD_eq_getD_getElem?, Array.getElem?_replicate] at hi
    split at hi <;> simp at hi
  exact ⟨by simp, fun i o hi => absurd hi (hn i), by rw [H.zero], fun d => ⟨0, Nat.zero_le _, by rw [H.zero], fun j o _ _ hj => absurd hj (hn j), .inl rfl⟩, ⟨0, Nat.zero_le _, by rw [H.zero], fun j o _ _ hj => absurd hj (hn j), .inl rfl⟩⟩

/-- Whatever must come ahead of a listed one is listed. -/
theorem Inv.before (D : DOk T ops.toList m) {L : Array Bool} {tmc : Tm} {hc : AH} (I : Inv T ops X L tmc hc) : ∀ (i : Nat), Li L i → ∀ j, j < ops.size → ordered m i j = true → Li L j := by
  intro i
  induction i using Nat.strongRecOn with
  | _ i ih =>
    intro hi j hj hij
    have hlt : i < ops.size := by have := Li_lt hi; rw [I.size] at this; exact this
    have ho : ops.toList[i]? = some ops[i] := by simp [hlt]
    obtain ⟨x, hx, hxj⟩ := D.step i _ j ho (by simpa using hj) hij
    have hxl := I.closed i ops[i] hi (by simp [hlt]) x hx
    rcases hxj with rfl | hxj
    · exact hxl
    · exact ih x (D.lt i _ ho x hx) hxl j hj hxj
theorem ready_spec {L : Array Bool} {i : Nat} (hi : i ∈ Region.ready .any ops L) (hs : L.size = ops.size) : ∃ o, ops[i]? = some o ∧ ¬ Li L i ∧ ∀ x ∈ preds o, Li L x := by
  unfold Region.ready at hi
  simp only [List.mem_filter, List.mem_range, Bool.and_eq_true] at hi
  obtain ⟨hlt, h1, h2⟩ := hi
  have ho : ops[i]? = some ops[i] := by simp [hlt]
  refine ⟨ops[i], ho, ?_, ?_⟩
  · intro hl
    have hls : i < L.size := by omega
    unfold Li at hl
    simp [Array.getD, hls] at h1 hl
    rw [hl] at h1
    simp at h1
  · intro x hx
    rw [ho] at h2
    simp only [Option.map_some, Option.getD_some] at h2
    unfold preds at hx
    rw [List.mem_filterMap] at hx
    obtain ⟨e, he, hxe⟩ := hx
    rw [Array.all_eq_true] at h2
    obtain ⟨k, hk, rfl⟩ := Array.mem_iff_getElem.1 (by simpa using he)
    have := h2 k hk
    split at hxe
    · rename_i hb
      simp at hxe; subst hxe
      simp [hb] at this
      unfold Li
      simpa [Array.getD_eq_getD_getElem?] using this
    · simp at hxe
theorem ready_nil {L : Array Bool} (D : DOk T ops.toList m) (hr : Region.ready .any ops L = []) (hs : L.size = ops.size) : ∀ i, i < ops.size → Li L i := by
  intro i
  induction i using Nat.strongRecOn with
  | _ i ih =>
    intro hi
    refine Classical.byContradiction fun hn => ?_
    have ho : ops[i]? = some ops[i] := by simp [hi]
    have hmem : i ∈ Region.ready .any ops L := by
      unfold Region.ready
      simp only [List.mem_filter, List.mem_range, Bool.and_eq_true]
      refine ⟨hi, ?_, ?_⟩
      · unfold Li at hn
        have hls : i < L.size := by omega
        simp [Array.getD, hls] at hn ⊢
        exact hn
      · rw [ho]
        simp only [Option.map_some, Option.getD_some]
        rw [Array.all_eq_true]
        intro k hk
        by_cases hb : Region.binds .any (ops[i].after[k]) = true
        · have hp : ops[i].after[k].on ∈ preds ops[i] := by
            unfold preds
            rw [List.mem_filterMap]
            exact ⟨ops[i].after[k], by simp, by rw [if_pos hb]⟩
          have hlt := D.lt i ops[i] (by simp [hi]) _ hp
          have := ih _ hlt (by omega)
          unfold Li at this
          rw [this]; simp
        · simp at hb
          simp [hb]
    rw [hr] at hmem
    simp at hmem

theorem share_dst {l : List Oper} {x y : Oper} {d : Nat} (h1 : x.dst = some d) (h2 : d ∈ looks l y ∨ y.dst = some d) : share l x y = true := by
  unfold share
  rw [h1]
  simp only [Bool.or_eq_true, List.contains_iff_mem, beq_iff_eq]
  rcases h2 with h2 | h2
  · exact .inl (.inl h2)
  · exact .inl (.inr h2)
theorem share_look {l : List Oper} {x y : Oper} {d : Nat} (h1 : y.dst = some d) (h2 : d ∈ looks l x) : share l x y = true := by
  unfold share
  rw [h1]
  simp only [Bool.or_eq_true, List.contains_iff_mem]
  exact .inr h2

theorem toL {i : Nat} {o : Oper} (h : ops[i]? = some o) : ops.toList[i]? = some o := by simpa using h
/-- What a ready operation looks at is what it looks at in the text's order. -/
theorem Inv.look (D : DOk T ops.toList m) (H : TrOk T S ops tr tm h X) {L : Array Bool} {tmc : Tm} {hc : AH} (I : Inv T ops X L tmc hc) {i : Nat} {o : Oper} (ho : ops[i]? = some o) (hn : ¬ Li L i) (hp : ∀ j, j < ops.size → ordered m i j = true → Li L j)
    {d : Nat} (hd : d ∈ looks ops.toList o) : tmc.get d = (X i).1.get d := by
  have hi := (Array.getElem?_eq_some_iff.1 ho).1
  obtain ⟨g, hg, hv, hb, hk⟩ := I.tmv d
  have hgi : g ≤ i := by
    rcases hk with rfl | ⟨k, p, rfl, hLk, hok, hdk⟩
    · exact Nat.zero_le _
    · rcases Nat.lt_trichotomy k i with h1 | h1 | h1
      · omega
      · subst h1; exact absurd hLk hn
      · exact absurd (I.before D k hLk i hi (D.shr k p i o (toL hok) (toL ho) h1 (share_dst hdk (.inl hd)))) hn
  rw [hv]
  refine (H.stayT i hgi (by omega) ?_).symm
  intro j p h1 h2 hoj hdj
  have hLj := hp j (by omega) (D.shr i o j p (toL ho) (toL hoj) h2 (share_look hdj hd))
  have := hb j p hoj hdj hLj
  omega
theorem Inv.heapAt (D : DOk T ops.toList m) (H : TrOk T S ops tr tm h X) {L : Array Bool} {tmc : Tm} {hc : AH} (I : Inv T ops X L tmc hc) {i : Nat} {o : Oper} (ho : ops[i]? = some o) (hn : ¬ Li L i) (hp : ∀ j, j < ops.size → ordered m i j = true → Li L j)
    (h2 : kindOf T o.op = 2) : hc = (X i).2 := by
  have hi := (Array.getElem?_eq_some_iff.1 ho).1
  obtain ⟨g, hg, hv, hb, hk⟩ := I.heap
  have hgi : g ≤ i := by
    rcases hk with rfl | ⟨k, p, rfl, hLk, hok, hdk⟩
    · exact Nat.zero_le _
    · rcases Nat.lt_trichotomy k i with h1 | h1 | h1
      · omega
      · subst h1; exact absurd hLk hn
      · exact absurd (I.before D k hLk i hi (D.eff k p i o (toL hok) (toL ho) h1 hdk h2)) hn
  rw [hv]
  refine (H.stayH i hgi (by omega) ?_).symm
  intro j p h1 h3 hoj
  have hkj := D.kind j p (toL hoj)
  by_cases e : kindOf T p.op = 2
  · have hLj := hp j (by omega) (D.eff i o j p (toL ho) (toL hoj) h3 h2 e)
    have := hb j p hoj e hLj
    omega
  · omega

/-- **ONE STEP, WHENEVER IT IS READY.** -/
theorem Inv.take (D : DOk T ops.toList m) (H : TrOk T S ops tr tm h X) (hloose : looseOk T ops m tr = true) {L : Array Bool} {tmc : Tm} {hc : AH} (I : Inv T ops X L tmc hc) {i : Nat} {o : Oper} (ho : ops[i]? = some o) (hn : ¬ Li L i) (hpr : ∀ x ∈ preds o, Li L x) :
    ∃ tmc' hc', regStep T S ops i tmc hc = some (tmc', hc') ∧ Inv T ops X (L.setIfInBounds i true) tmc' hc' := by
  have hi := (Array.getElem?_eq_some_iff.1 ho).1
  have hiL : i < L.size := by rw [I.size]; exact hi
  have hp : ∀ j, j < ops.size → ordered m i j = true → Li L j := by
    intro j hj hij
    obtain ⟨x, hx, hxj⟩ := D.step i o j (toL ho) (by simpa using hj) hij
    rcases hxj with rfl | hxj
    · exact hpr _ hx
    · exact I.before D x (hpr x hx) j hj hxj
  have hlook : ∀ d, d ∈ looks ops.toList o → tmc.get d = (X i).1.get d := fun d hd => I.look D H ho hn hp hd
  have hw : wantedA ops o tmc = wantedA ops o (X i).1 := by
    unfold wantedA
    cases hgd : o.guard with
    | none => rfl
    | some g =>
      obtain ⟨k, want⟩ := g
      simp only
      cases hd : (ops[k]?).bind (·.dst) with
      | none => rfl
      | some d =>
        simp only
        rw [hlook d (by unfold looks; rw [hgd]; simp [hd])]
  have hev : ∀ x ∈ o.op.operands, ev tmc.get x = ev (X i).1.get x := by
    intro x hx
    refine ev_congr fun t ht => hlook t ?_
    subst ht
    unfold looks
    refine List.mem_append_left _ (List.mem_filterMap.2 ⟨.tmp t, by simpa using hx, rfl⟩)
  have hkd := D.kind i o (toL ho)
  obtain ⟨v, hput, hst⟩ := H.at ho
  obtain ⟨g, hg, hgv, hgb, hgk⟩ := I.heap
  have hts : tmc.size = (X i).1.size := by rw [I.tsize, H.size i (by omega), H.zero]
  obtain ⟨tmc', hput'⟩ := put_some hts hput v
  have heff : kindOf T o.op = 2 → hc = (X i).2 := I.heapAt D H ho hn hp
  -- what the step does
  have hstep : ∃ hc', regStep T S ops i tmc hc = some (tmc', hc') ∧ (kindOf T o.op = 2 → hc' = (X (i + 1)).2) ∧ (kindOf T o.op ≤ 1 → hc' = hc) := by
    unfold regStep
    simp only [ho]
    rw [hw]
    rcases hst with ⟨hwt, hst⟩ | ⟨hwf, hv, hsame⟩
    · rw [if_pos hwt]
      have hcg := stepOp_congr (T := T) (S := S) (h := hc) hev hkd
      rw [hcg]
      by_cases h2 : kindOf T o.op = 2
      · rw [heff h2, hst]
        simp only [hput', Option.map_some]
        exact ⟨_, rfl, fun _ => rfl, fun h1 => by omega⟩
      · obtain ⟨hsame, hevl⟩ := stepOp_quiet (by omega) hst
        have hev2 : evalOp T (X i).1.get o hc = some (.val v hc) := by
          by_cases h0 : kindOf T o.op = 0
          · obtain ⟨u, hu, hall⟩ := kind0 h0 hevl
            cases hu
            exact hall hc
          · have h1 : kindOf T o.op = 1 := by omega
            have hl := hloose
            unfold looseOk at hl
            rw [List.all_eq_true] at hl
            have hli := hl i (List.mem_range.2 hi)
            unfold looseAt at hli
            rw [ho, H.get i (by omega)] at hli
            simp only at hli
            rw [if_pos ⟨h1, hwt⟩, List.all_eq_true] at hli
            have hgm : g ∈ placesOf T ops.toList := by
              unfold placesOf
              rcases hgk with rfl | ⟨k, p, rfl, hLk, hok, hkk⟩
              · simp
              · refine List.mem_cons_of_mem _ (List.mem_filterMap.2 ⟨k, ?_, ?_⟩)
                · have := (Array.getElem?_eq_some_iff.1 hok).1
                  simp [this]
                · rw [toL hok]; simp [hkk]
            have hmay : mayAt T ops.toList m i g = true := by
              unfold mayAt
              rw [List.all_eq_true]
              intro k hk
              have hks : k < ops.size := by simpa using hk
              have hok : ops[k]? = some ops[k] := by simp [hks]
              rw [toL hok]
              simp only
              split
              · rename_i hkk
                simp only [Bool.and_eq_true, Bool.or_eq_true, Bool.not_eq_true', Bool.and_eq_false_iff, decide_eq_true_eq, decide_eq_false_iff_not]
                constructor
                · by_cases hor : ordered m i k = true
                  · exact .inr (hgb k _ hok hkk (hp k hks hor))
                  · exact .inl (.inr (by simpa using hor))
                · by_cases hor : i < k ∧ ordered m k i = true
                  · refine .inr ?_
                    rcases hgk with rfl | ⟨k2, p, rfl, hLk, hok2, hkk2⟩
                    · exact Nat.zero_le _
                    · refine Classical.byContradiction fun hlt => ?_
                      have hk2s := (Array.getElem?_eq_some_iff.1 hok2).1
                      have hLkk : Li L k := by
                        by_cases e : k = k2
                        · subst e; exact hLk
                        · exact I.before D k2 hLk k hks (D.eff k2 p k _ (toL hok2) (toL hok) (by omega) hkk2 hkk)
                      exact hn (I.before D k hLkk i hi hor.2)
                  · refine .inl ?_
                    by_cases h3 : i < k
                    · exact .inr (by simpa using fun h4 => hor ⟨h3, h4⟩)
                    · exact .inl h3
              · rfl
            have := hli g hgm
            rw [if_pos hmay, H.get g hg] at this
            simp only at this
            unfold seesSame at this
            rw [hevl] at this
            rw [hgv]
            cases hz : evalOp T (X i).1.get o (X g).2 with
            | none => rw [hz] at this; simp at this
            | some r =>
              obtain ⟨u, rfl⟩ := kind1 h1 hz
              rw [hz] at this
              simp only at this
              rw [AV.same_eq _ _ this]
        rw [stepOp_val hev2]
        simp only [hput', Option.map_some]
        exact ⟨_, rfl, fun h3 => absurd h3 h2, fun _ => rfl⟩
    · rw [if_neg (by rw [hwf]; simp)]
      subst hv
      rw [hput']
      refine ⟨hc, rfl, fun h2 => by rw [hsame]; exact heff h2, fun _ => rfl⟩
  obtain ⟨hc', hstep, he2, he1⟩ := hstep
  refine ⟨tmc', hc', hstep, ⟨by simp [I.size], ?_, ?_, ?_, ?_⟩⟩
  · intro j p hj hoj x hx
    rw [Li_set hiL] at hj ⊢
    rcases hj with rfl | hj
    · rw [ho] at hoj; cases hoj; exact .inr (hpr x hx)
    · exact .inr (I.closed j p hj hoj x hx)
  · rw [put_size hput', I.tsize]
  · intro d
    by_cases hd : o.dst = some d
    · refine ⟨i + 1, by omega, ?_, ?_, .inr ⟨i, o, rfl, (Li_set hiL).2 (.inl rfl), ho, hd⟩⟩
      · rw [put_get hput', put_get hput, if_pos hd, if_pos hd]
      · intro j p hoj hdj hj
        rw [Li_set hiL] at hj
        rcases hj with rfl | hj
        · omega
        · refine Classical.byContradiction fun hlt => ?_
          have hji : i < j := by omega
          exact hn (I.before D j hj i hi (D.shr j p i o (toL hoj) (toL ho) hji (share_dst hdj (.inr hd))))
    · obtain ⟨g2, h1, h2, h3, h4⟩ := I.tmv d
      refine ⟨g2, h1, ?_, ?_, ?_⟩
      · rw [put_get hput', if_neg hd]; exact h2
      · intro j p hoj hdj hj
        rw [Li_set hiL] at hj
        rcases hj with rfl | hj
        · rw [ho] at hoj; cases hoj; exact absurd hdj hd
        · exact h3 j p hoj hdj hj
      · rcases h4 with h4 | ⟨k, p, h5, h6, h7⟩
        · exact .inl h4
        · exact .inr ⟨k, p, h5, (Li_set hiL).2 (.inr h6), h7⟩
  · by_cases h2 : kindOf T o.op = 2
    · refine ⟨i + 1, by omega, he2 h2, ?_, .inr ⟨i, o, rfl, (Li_set hiL).2 (.inl rfl), ho, h2⟩⟩
      intro j p hoj hkj hj
      rw [Li_set hiL] at hj
      rcases hj with rfl | hj
      · omega
      · refine Classical.byContradiction fun hlt => ?_
        exact hn (I.before D j hj i hi (D.eff j p i o (toL hoj) (toL ho) (by omega) hkj h2))
    · refine ⟨g, hg, by rw [he1 (by omega)]; exact hgv, ?_, ?_⟩
      · intro j p hoj hkj hj
        rw [Li_set hiL] at hj
        rcases hj with rfl | hj
        · rw [ho] at hoj; cases hoj; exact absurd hkj h2
        · exact hgb j p hoj hkj hj
      · rcases hgk with h4 | ⟨k, p, h5, h6, h7⟩
        · exact .inl h4
        · exact .inr ⟨k, p, h5, (Li_set hiL).2 (.inr h6), h7⟩
/-- All listed: the text's order's last state. -/
theorem Inv.fin (H : TrOk T S ops tr tm h X) {L : Array Bool} {tmc : Tm} {hc : AH} (I : Inv T ops X L tmc hc) (hall : ∀ i, i < ops.size → Li L i) (hk : ∀ (i : Nat) (o : Oper), ops[i]? = some o → kindOf T o.op ≤ 2) :
    tmc.size = (X ops.size).1.size ∧ (∀ d, tmc.get d = (X ops.size).1.get d) ∧ hc = (X ops.size).2 := by
  refine ⟨by rw [I.tsize, H.size _ (Nat.le_refl _), H.zero], ?_, ?_⟩
  · intro d
    obtain ⟨g, h1, h2, h3, _⟩ := I.tmv d
    rw [h2]
    refine (H.stayT _ h1 (Nat.le_refl _) ?_).symm
    intro j o hj hlt hoj hd
    have := h3 j o hoj hd (hall j hlt)
    omega
  · obtain ⟨g, h1, h2, h3, _⟩ := I.heap
    rw [h2]
    refine (H.stayH _ h1 (Nat.le_refl _) ?_).symm
    intro j o hj hlt hoj
    have := hk j o hoj
    by_cases e : kindOf T o.op = 2
    · have := h3 j o hoj e (hall j hlt)
      omega
    · omega
end inv
end pure

section walk
variable {P : Program} {T : Tys} {w0 : World}
theorem count_set : ∀ (l : List Bool) (i : Nat), l[i]? = some false → (l.set i true).count false + 1 = l.count false
  | [], i, h => by simp at h
  | b :: l, 0, h => by simp at h; subst h; simp
  | b :: l, i + 1, h => by
    have := count_set l i (by simpa using h)
    simp only [List.set_cons_succ, List.count_cons]
    omega
theorem count_zero {L : Array Bool} (h : L.toList.count false = 0) : ∀ i, i < L.size → Li L i := by
  intro i hi
  unfold Li
  rw [List.count_eq_zero] at h
  have : L[i] ∈ L.toList := by simp
  simp only [Array.getD, hi, dif_pos]
  cases hb : L[i] with
  | true => simpa using hb
  | false => rw [hb] at this; exact absurd this h
theorem TmR.congr {ρ : Rho} {t t' : Tm} {ts : Array Value} (h : TmR w0 ρ t ts) (hs : t.size = t'.size) (hg : ∀ d, t.get d = t'.get d) : TmR w0 ρ t' ts := ⟨by rw [← hs]; exact h.1, fun i => by rw [← hg]; exact h.2 i⟩

theorem any_wp {S : Sys} {rd : Option Nat} {n : Nat} {ops : Array Oper} {Q : Exit → Act → World → Prop} {m : List Nat} {tr : List (Tm × AH)} {tm : Tm} {h : AH} {X : Nat → Tm × AH} (hT : TOk P T) (hF : FOk P) (hS : SysOk P w0 S)
    (D : DOk T ops.toList m) (H : TrOk T S ops tr tm h X) (hloose : looseOk T ops m tr = true) (ρ0 : Rho) (A0 : Act)
    (hk : ∀ ρ' A' w', Ext ρ0 ρ' → WR w0 ρ' (X ops.size).2 w' → TmR w0 ρ' (X ops.size).1 A'.tmps → A'.defers = A0.defers → Q .normal A' w') :
    ∀ (fuel : Nat) (L : Array Bool) (tmc : Tm) (hc : AH) (ρ : Rho) (A : Act) (w : World), L.toList.count false ≤ fuel → Inv T ops X L tmc hc → Ext ρ0 ρ → WR w0 ρ hc w → TmR w0 ρ tmc A.tmps → A.defers = A0.defers →
      wpAnyIn (FW rd) n P .any ops Q fuel L A w := by
  have done : ∀ (L : Array Bool) (tmc : Tm) (hc : AH) (ρ : Rho) (A : Act) (w : World), (∀ i, i < ops.size → Li L i) → Inv T ops X L tmc hc → Ext ρ0 ρ → WR w0 ρ hc w → TmR w0 ρ tmc A.tmps → A.defers = A0.defers → Q .normal A w := by
    intro L tmc hc ρ A w hall I hx Hw ht hd
    obtain ⟨h1, h2, h3⟩ := I.fin H hall fun i o ho => D.kind i o (toL ho)
    exact hk ρ A w hx (by rw [← h3]; exact Hw) (ht.congr h1 h2) hd
  intro fuel
  induction fuel with
  | zero =>
    intro L tmc hc ρ A w hc0 I hx Hw ht hd
    have hall : ∀ i, i < ops.size → Li L i := fun i hi => count_zero (by omega) i (by rw [I.size]; exact hi)
    refine ⟨?_, done L tmc hc ρ A w hall I hx Hw ht hd⟩
    refine List.eq_nil_iff_forall_not_mem.2 fun i hi => ?_
    obtain ⟨o, ho, hn, _⟩ := ready_spec hi I.size
    exact hn (hall i (Array.getElem?_eq_some_iff.1 ho).1)
  | succ fuel ih =>
    intro L tmc hc ρ A w hc0 I hx Hw ht hd
    refine ⟨fun hr => done L tmc hc ρ A w (ready_nil D hr I.size) I hx Hw ht hd, fun i hi => ?_⟩
    obtain ⟨o, ho, hn, hp⟩ := ready_spec hi I.size
    obtain ⟨tmc', hc', hst, I'⟩ := I.take D H hloose ho hn hp
    refine regStep_wp hT hF hS hst Hw ht fun ρ' A' w' hx' Hw' ht' hd' => ?_
    refine ih _ tmc' hc' ρ' A' w' ?_ I' (hx.trans hx') Hw' ht' (hd'.trans hd)
    have hiL : i < L.size := by rw [I.size]; exact (Array.getElem?_eq_some_iff.1 ho).1
    have hf : L.toList[i]? = some false := by
      unfold Li at hn
      simp [Array.getD, hiL] at hn ⊢
      exact hn
    have := count_set L.toList i hf
    rw [Array.toList_setIfInBounds]
    omega

/-- **REGIONS THAT DRAW.** -/
theorem draw_ok (hM : P.follows .mixedOrders = true) (hT : TOk P T) (hF : FOk P) : ∀ S, SysOk P w0 S → DrawOk P T w0 S := by
  intro S hS rd n id ops Q ρ h h' w tm tm' A hr Hw ht hk
  unfold regDraw at hr
  split at hr
  · rename_i hD
    split at hr
    · simp at hr
    · rename_i tr htr
      split at hr
      · rename_i hl
        have D := drawOk_DOk hD
        have H := regTrace_TrOk htr
        have hX := H.get ops.size (Nat.le_refl _)
        rw [hr] at hX
        simp only [Option.some.injEq] at hX
        refine wpIn_region_any hM ?_
        refine any_wp hT hF hS D H hl ρ A ?_ ops.size _ tm h ρ A w.drew ?_ (Inv.start H) (Ext.refl _) Hw.drew ht rfl
        · intro ρ' A' w' hx' Hw' ht' hd'
          rw [← hX] at Hw' ht'
          exact hk ρ' A' w' hx' Hw' ht' hd'
        · have := List.count_le_length (a := false) (l := (Array.replicate ops.size false).toList)
          exact Nat.le_trans this (by simp)
      · simp at hr
  · simp at hr

/-- **THE WHOLE.** -/
theorem abs_ok (hM : P.follows .mixedOrders = true) (hT : TOk P T) (hF : FOk P) (n : Nat) : SysOk P w0 ⟨callA P T n, yieldA P T n⟩ := sys_ok hT hF (draw_ok hM hT hF) n
end walk
end Go.Abs
