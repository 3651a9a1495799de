/- ledger: code and reference side by side; Started, Verdict, All; numbers rise. -/
import Derived.Test.YtanbckdhlmhdeaaLedFront
import Derived.Test.YtanbckdhlmhdeaaLedRef9
set_option linter.unusedSimpArgs false
set_option linter.unusedVariables false
namespace Go.Proofs.Ytanbckdhlmhdeaa
open Go.Abs
set_option maxRecDepth 100000
/-- Both ledgers in memory, apart from each other and from F. -/
def Two (F : Nat → Prop) (h : AH) (p q : Nat) (s : Sg) : Prop := ∃ Oc Or, LgC Oc h p s ∧ LgR Or h q s ∧ (∀ x, Oc x = 0 ∨ Or x = 0) ∧ ∀ x, F x → x < h.size ∧ Oc x = 0 ∧ Or x = 0
theorem Two.keep {F F' : Nat → Prop} {h h' : AH} {p q : Nat} {s : Sg} (t : Two F h p q s) (k : Keeps h.size h h') (hF : ∀ x, F' x → F x ∨ h.size ≤ x ∧ x < h'.size) : Two F' h' p q s := by
  obtain ⟨Oc, Or, hc, hr, hd, hf⟩ := t
  refine ⟨_, _, hc.after k, hr.after k, fun x => ?_, fun x hx => ?_⟩
  · unfold O1
    by_cases hx : x < h.size
    · rw [if_pos hx, if_pos hx]; exact hd x
    · rw [if_neg hx]; exact .inl rfl
  · unfold O1
    rcases hF x hx with h1 | ⟨h1, h2⟩
    · obtain ⟨a, b, c⟩ := hf x h1
      rw [if_pos a, if_pos a]
      exact ⟨by have := k.1; omega, b, c⟩
    · rw [if_neg (by omega)]
      exact ⟨h2, rfl, by rw [if_neg (by omega)]⟩
/-- What is the law's own may change. -/
theorem Two.own {F : Nat → Prop} {h h' : AH} {p q : Nat} {s : Sg} (t : Two F h p q s) (hz : h.size ≤ h'.size) (hf : ∀ x, x < h.size → ¬ F x → h'.get x = h.get x) : Two F h' p q s := by
  obtain ⟨Oc, Or, hc, hr, hd, hF⟩ := t
  have ne : ∀ x, F x → Oc x = 0 ∧ Or x = 0 := fun x hx => (hF x hx).2
  exact ⟨Oc, Or, hc.frame (fun x hx h0 => hf x hx (fun e => h0 (ne x e).1)) hz (fun _ _ => rfl), hr.frame (fun x hx h0 => hf x hx (fun e => h0 (ne x e).2)) hz (fun _ _ => rfl), hd, fun x hx => ⟨by have := (hF x hx).1; omega, ne x hx⟩⟩
theorem LgR.skip {Oc Or : Nat → Nat} {h h1 : AH} {p q : Nat} {s s' : Sg} (hr : LgR Or h q s) (hd : ∀ x, Oc x = 0 ∨ Or x = 0) (st : StepL Oc h h1 p s') : LgR (O1 Or h) h1 q s := by
  obtain ⟨z1, f1, O', a1, l1⟩ := st
  exact hr.frame (fun x hx hx0 => f1 x hx ((hd x).resolve_right hx0)) z1 (fun x hx => if_pos hx)
theorem two_next {F : Nat → Prop} {Oc Or : Nat → Nat} {h h1 h2 : AH} {p q : Nat} {s' : Sg} (hd : ∀ x, Oc x = 0 ∨ Or x = 0) (hF : ∀ x, F x → x < h.size ∧ Oc x = 0 ∧ Or x = 0) (st : StepL Oc h h1 p s') (st' : StepM (O1 Or h) h1 h2 q s') : Two F h2 p q s' ∧ (∀ x, x < h.size → Oc x = 0 → Or x = 0 → h2.get x = h.get x) ∧ h.size ≤ h2.size := by
  obtain ⟨z1, f1, O', a1, l1⟩ := st
  obtain ⟨z2, f2, O2, a2, l2⟩ := st'
  have z : ∀ x, x < h1.size → ¬ O' x = 0 → O1 Or h x = 0 := fun x hx hx0 => by
    unfold O1
    by_cases e : x < h.size
    · rw [if_pos e]; rw [a1 x e] at hx0; exact (hd x).resolve_left hx0
    · rw [if_neg e]
  refine ⟨⟨O1 O' h1, O2, l1.frame (fun x hx hx0 => f2 x hx (z x hx hx0)) z2 (fun x hx => if_pos hx), l2, fun x => ?_, fun x hx => ?_⟩, fun x hx c0 r0 => ?_, by omega⟩
  · by_cases e : x < h1.size
    · by_cases c0 : O' x = 0
      · left; unfold O1; rw [if_pos e]; exact c0
      · right; rw [a2 x e]; exact z x e c0
    · left; unfold O1; rw [if_neg e]
  · obtain ⟨a, b, c⟩ := hF x hx
    refine ⟨by omega, ?_, ?_⟩
    · unfold O1; rw [if_pos (by omega), a1 x a]; exact b
    · rw [a2 x (by omega)]; unfold O1; rw [if_pos a]; exact c
  · rw [f2 x (by omega) (by unfold O1; rw [if_pos hx]; exact r0), f1 x hx c0]
theorem LgC.fix {O : Nat → Nat} {h : AH} {p : Nat} {s : Sg} (hl : LgC O h p s) : ∃ sl g bs, h.get p = some (.cells [sl, .bool false, .bool s.cl, .bool s.sv]) ∧ p < h.size ∧ OwN EP h g sl bs ∧ bs.length = s.l.length ∧ ∀ (k : Nat) r b, s.l[k]? = some r → bs[k]? = some b → ∃ v1 v2 v3 v4, h.get b = some (.cells (cC r v1 v2 v3 v4)) ∧ b < h.size := by
  obtain ⟨sl, g, bs, hc, hp, hO, o, t, hn, hr⟩ := hl
  exact ⟨sl, g, bs, hc, hp, o, hn, fun k r b h1 h2 => by
    obtain ⟨_, _, _, _, v1, v2, v3, v4, a, b, _⟩ := hr k r b h1 h2
    exact ⟨v1, v2, v3, v4, a, b⟩⟩
/-! Numbers rise -/
def Inc (s : Sg) : Prop := (s.l.map (·.id)).Pairwise (· < ·) ∧ ∀ r ∈ s.l, r.id ≤ topId s.l
theorem topId_map (l : List Rq) : topId l = ((l.map (·.id)).getLast?).getD 0 := by
  unfold topId
  rw [List.getLast?_map]
  cases l.getLast? <;> rfl
theorem stepC_id {r r' : Rq} {n : Nt} (h : stepC r n = some r') : r'.id = r.id := by
  unfold stepC at h
  split at h
  · split at h <;> cases h; rfl
  split at h
  · split at h <;> cases h; rfl
  split at h
  · split at h <;> cases h; rfl
  split at h
  · split at h <;> cases h; rfl
  split at h <;> cases h; rfl
theorem stepS_id {r r' : Rq} {n : Nt} (h : stepS r n = some r') : r'.id = r.id ∧ r'.verdict = r.verdict := by
  unfold stepS at h
  split at h
  · split at h <;> cases h; exact ⟨rfl, rfl⟩
  split at h
  · split at h <;> cases h; exact ⟨rfl, rfl⟩
  split at h
  · split at h <;> cases h; exact ⟨rfl, rfl⟩
  split at h
  · split at h <;> cases h; exact ⟨rfl, rfl⟩
  split at h <;> cases h; exact ⟨rfl, rfl⟩
theorem map_set_id {l : List Rq} {k : Nat} {r r' : Rq} (hk : l[k]? = some r) (hi : r'.id = r.id) : (l.set k r').map (·.id) = l.map (·.id) := by
  rw [List.map_set]
  apply List.ext_getElem? fun j => ?_
  rw [List.getElem?_set]
  split
  · subst_vars
    have := (List.getElem?_eq_some_iff.1 hk).1
    split
    · rw [List.getElem?_map, hk, hi]; rfl
    · simp at *; omega
  · rfl
/-- What a note that may happen makes of the ledger. -/
theorem noteC_cases {s s' : Sg} {n : Nt} (h : noteC s n = some s') : (n.role = 1 ∨ n.role = 2) ∧ ¬ ((n.role = 1 ∧ s.cl = true) ∨ (n.role = 2 ∧ s.sv = true)) ∧
    ((¬ n.kind = 14 ∧ s' = s) ∨ (n.kind = 14 ∧ n.role = 1 ∧ pend s.l = false ∧ s' = { s with cl := true }) ∨ (n.kind = 14 ∧ n.role = 2 ∧ s' = { s with sv := true }) ∨ (¬ n.kind = 14 ∧ n.role = 1 ∧ issueOk s.l n ∧ s' = { s with l := s.l ++ [newRq n] }) ∨
      ∃ k r r', ¬ n.kind = 14 ∧ s.l[k]? = some r ∧ r'.id = r.id ∧ (n.role = 1 ∨ r'.verdict = r.verdict) ∧ s' = { s with l := s.l.set k r' }) := by
  unfold noteC at h
  split at h
  · cases h
  rename_i h1
  split at h
  · cases h
  rename_i h2
  refine ⟨Classical.not_not.1 h1, h2, ?_⟩
  split at h
  · rename_i h3; cases h; exact .inl ⟨by omega, rfl⟩
  split at h
  · rename_i h4
    split at h
    · split at h
      · cases h
      · cases h; rename_i h5 h6; exact .inr (.inl ⟨h4, h5, by simpa using h6, rfl⟩)
    · cases h; exact .inr (.inr (.inl ⟨h4, by omega, rfl⟩))
  rename_i h4
  split at h
  · split at h
    · cases h; rename_i h5; exact .inr (.inr (.inr (.inl ⟨h4, h5.1, h5.2, rfl⟩)))
    · cases h
  split at h
  · cases h
  · rename_i k hk
    split at h
    · cases h
    · rename_i r hr
      by_cases hro : n.role = 1
      · rw [if_pos hro] at h
        cases hst : stepC r n with
        | none => rw [hst] at h; cases h
        | some r' => rw [hst] at h; cases h; exact .inr (.inr (.inr (.inr ⟨k, r, r', h4, hr, stepC_id hst, .inl hro, rfl⟩)))
      · rw [if_neg hro] at h
        cases hst : stepS r n with
        | none => rw [hst] at h; cases h
        | some r' => rw [hst] at h; cases h; exact .inr (.inr (.inr (.inr ⟨k, r, r', h4, hr, (stepS_id hst).1, .inr (stepS_id hst).2, rfl⟩)))
theorem Inc.next {s s' : Sg} {n : Nt} (hi : Inc s) (h : noteC s n = some s') : Inc s' := by
  obtain ⟨_, _, h | h | h | h | h⟩ := noteC_cases h
  · rw [h.2]; exact hi
  · rw [h.2.2.2]; exact hi
  · rw [h.2.2]; exact hi
  · obtain ⟨_, _, hok, rfl⟩ := h
    obtain ⟨h1, h2⟩ := hi
    have ht : topId (s.l ++ [newRq n]) = n.id := by unfold topId; simp [newRq]
    refine ⟨?_, fun r hr => ?_⟩
    · simp only [List.map_append, List.map_cons, List.map_nil]
      rw [List.pairwise_append]
      refine ⟨h1, by simp, fun a ha b hb => ?_⟩
      simp only [List.mem_singleton] at hb
      subst hb
      obtain ⟨r, hr, rfl⟩ := List.mem_map.1 ha
      have := h2 r hr
      have := hok.1
      simp only [newRq]
      omega
    · simp only [ht]
      rcases List.mem_append.1 hr with hr | hr
      · have := h2 r hr; have := hok.1; omega
      · simp only [List.mem_singleton] at hr; subst hr; exact Int.le_refl _
  · obtain ⟨k, r, r', _, hr, hid, _, rfl⟩ := h
    have hm := map_set_id hr hid
    obtain ⟨h1, h2⟩ := hi
    refine ⟨by simp only [hm]; exact h1, fun x hx => ?_⟩
    have ht : topId (s.l.set k r') = topId s.l := by rw [topId_map, topId_map, hm]
    simp only [ht]
    have : x.id ∈ (s.l.set k r').map (·.id) := List.mem_map.2 ⟨x, hx, rfl⟩
    rw [hm] at this
    obtain ⟨y, hy, e⟩ := List.mem_map.1 this
    rw [← e]; exact h2 y hy
theorem inc0 : Inc s0 := ⟨by simp [s0], by simp [s0]⟩
/-- The last line of a number. -/
def look (l : List Rq) (id : Int) : Bool × Int := l.foldl (fun a r => if r.id = id then (r.ask.told, r.verdict) else a) (false, 0)
theorem look_snoc (l : List Rq) (r : Rq) (id : Int) : look (l ++ [r]) id = if r.id = id then (r.ask.told, r.verdict) else look l id := by
  unfold look; rw [List.foldl_append]; rfl
theorem look_no : ∀ (l : List Rq) (id : Int) (a : Bool × Int), (∀ r ∈ l, ¬ r.id = id) → l.foldl (fun a r => if r.id = id then (r.ask.told, r.verdict) else a) a = a
  | [], _, _, _ => rfl
  | x :: l, id, a, h => by
    rw [List.foldl_cons, if_neg (h x List.mem_cons_self)]
    exact look_no l id a fun r hr => h r (List.mem_cons_of_mem _ hr)
theorem look_at : ∀ (l : List Rq) (k : Nat) (r : Rq) (a : Bool × Int), (l.map (·.id)).Pairwise (· < ·) → l[k]? = some r → l.foldl (fun a x => if x.id = r.id then (x.ask.told, x.verdict) else a) a = (r.ask.told, r.verdict)
  | [], k, r, a, _, hk => by simp at hk
  | x :: l, 0, r, a, hp, hk => by
    simp at hk; subst hk
    rw [List.foldl_cons, if_pos rfl]
    refine look_no l _ _ fun y hy e => ?_
    rw [List.map_cons, List.pairwise_cons] at hp
    have := hp.1 y.id (List.mem_map.2 ⟨y, hy, rfl⟩)
    omega
  | x :: l, k + 1, r, a, hp, hk => by
    rw [List.map_cons, List.pairwise_cons] at hp
    rw [List.foldl_cons]
    exact look_at l k r _ hp.2 (by simpa using hk)
theorem fidx_id {l : List Rq} {id : Int} {k : Nat} {r : Rq} (h : fidx l id = some k) (hr : l[k]? = some r) : r.id = id := by
  unfold fidx at h
  rw [List.findIdx?_eq_some_iff_getElem] at h
  obtain ⟨hk, h1, _⟩ := h
  rw [List.getElem?_eq_getElem hk] at hr
  cases hr
  simpa using h1
theorem fidx_no {l : List Rq} {id : Int} (h : fidx l id = none) : ∀ r ∈ l, ¬ r.id = id := by
  unfold fidx at h
  rw [List.findIdx?_eq_none_iff] at h
  exact fun r hr e => by simpa [e] using h r hr
/-! Started, Verdict, All -/
set_option maxHeartbeats 4000000 in
theorem startedC (O : Nat → Nat) (p : Nat) (s : Sg) (id : Int) (h0 : AH) (hl : LgC O h0 p s) (hi : Inc s) (hn : s.l.length ≤ 1000) :
    callW Try.prog Try.T 13 [.ptr (some (p, 0)), .int .i64 id] h0 fun v h' => v = .bool (look s.l id).1 ∧ Keeps h0.size h0 h' := by
  refine callW_hide fun KK hKK => ?_
  obtain ⟨sl, g, bs, hc, hp, hO, o, t, hbn, hr⟩ := hl
  refine callW_in (n := 17) (rs := [.tmp 4]) (m := 17) Try.func13 rfl rfl rfl rfl fun tr ht => ?_; have e0 := ht 0 _ rfl; have e1 := ht 1 _ rfl; clear ht
  repeat' (first
      | (with_reducible first | refine q_nn ?_ | refine q_nr ?_ | refine q_ne ?_ | refine q_en ?_ | refine q_er ?_ | refine q_es ?_ | refine q_gn ?_ | refine q_gr ?_ | refine q_ge ?_ | refine c_seq ?_ | refine c_block ?_ | refine c_scope ?_ | refine c_skip ?_ | refine c_label ?_ | refine c_ret ?_ | refine c_exit ?_ | (refine hK _ _ ?_; clear hK K) | refine seg_nil ?_) | ((with_reducible refine q_eo ?_ ?_); exact rfl)
      | ((with_reducible first | refine c_reg fun K hK => ?_ | refine c_drw (by decide +kernel) fun K hK => ?_ | refine c_cond ?_ | refine seg_cons fun K hK => ?_ | show endW _ _ _ _ _ | refine ifb_dec (fun _ => ?_) (fun _ => ?_) | refine ifb_ieq (fun _ => ?_) (fun _ => ?_) | refine ifb_seq (fun _ => ?_) (fun _ => ?_)) <;> try simp (disch := first | (with_unfolding_all first | exact Lk.mk rfl | exact Seen.of rfl) | assumption | (fail_if_success with_reducible first | refine Seen.of ?_ | apply Sl.frame | apply Ow.frame); omega) only [go_sem, Int.reduceEq, Int.reduceLE, Int.reduceLT, Int.reduceNe, Int.reduceNeg, Int.reduceAdd, Int.reduceSub, Int.reduceMul, Int.reduceToNat, Nat.reduceLT, Nat.reduceLeDiff, Nat.reduceEqDiff, Nat.reduceAdd, Nat.reduceSub, Nat.reduceMul, reduceCtorEq, reduceIte, e0, e1]))
  refine callM_of (findB O p s id h0 sl g bs hc hp o hbn hr hn) ?_
  rintro v h1 ⟨k1, (⟨hfx, rfl⟩ | ⟨k, b, r, hfx, hrk, rfl, hbk⟩)⟩
  · have hq : look s.l id = (false, 0) := look_no _ _ _ (fidx_no hfx)
    rw [hq] at hKK
    refine vI ?_; repeat' (first
      | (with_reducible first | refine q_nn ?_ | refine q_nr ?_ | refine q_ne ?_ | refine q_en ?_ | refine q_er ?_ | refine q_es ?_ | refine q_gn ?_ | refine q_gr ?_ | refine q_ge ?_ | refine c_seq ?_ | refine c_block ?_ | refine c_scope ?_ | refine c_skip ?_ | refine c_label ?_ | refine c_ret ?_ | refine c_exit ?_ | (refine hK _ _ ?_; clear hK K) | refine seg_nil ?_) | ((with_reducible refine q_eo ?_ ?_); exact rfl)
      | ((with_reducible first | refine vO ?_ | refine c_reg fun K hK => ?_ | refine c_drw (by decide +kernel) fun K hK => ?_ | refine c_cond ?_ | refine seg_cons fun K hK => ?_ | show endW _ _ _ _ _ | refine ifb_dec (fun _ => ?_) (fun _ => ?_) | refine ifb_ieq (fun _ => ?_) (fun _ => ?_) | refine ifb_seq (fun _ => ?_) (fun _ => ?_)) <;> try simp (disch := first | (with_unfolding_all first | exact Lk.mk rfl | exact Seen.of rfl) | assumption | (fail_if_success with_reducible first | refine Seen.of ?_ | apply Sl.frame | apply Ow.frame); omega) only [go_sem, Int.reduceEq, Int.reduceLE, Int.reduceLT, Int.reduceNe, Int.reduceNeg, Int.reduceAdd, Int.reduceSub, Int.reduceMul, Int.reduceToNat, Nat.reduceLT, Nat.reduceLeDiff, Nat.reduceEqDiff, Nat.reduceAdd, Nat.reduceSub, Nat.reduceMul, reduceCtorEq, reduceIte, e0, e1]))
    exact hKK _ _ ⟨rfl, k1⟩
  · have hq : look s.l id = (r.ask.told, r.verdict) := by
      have := fidx_id hfx hrk
      subst this
      exact look_at _ _ _ _ hi.1 hrk
    rw [hq] at hKK
    obtain ⟨_, _, _, _, v1, v2, v3, v4, hcb, hbb, _⟩ := hr k r b hrk hbk
    have c1 := (k1.2 b hbb).trans hcb
    unfold cC at c1
    refine vI ?_; repeat' (first
      | (with_reducible first | refine q_nn ?_ | refine q_nr ?_ | refine q_ne ?_ | refine q_en ?_ | refine q_er ?_ | refine q_es ?_ | refine q_gn ?_ | refine q_gr ?_ | refine q_ge ?_ | refine c_seq ?_ | refine c_block ?_ | refine c_scope ?_ | refine c_skip ?_ | refine c_label ?_ | refine c_ret ?_ | refine c_exit ?_ | (refine hK _ _ ?_; clear hK K) | refine seg_nil ?_) | ((with_reducible refine q_eo ?_ ?_); exact rfl)
      | ((with_reducible first | refine vO ?_ | refine c_reg fun K hK => ?_ | refine c_drw (by decide +kernel) fun K hK => ?_ | refine c_cond ?_ | refine seg_cons fun K hK => ?_ | show endW _ _ _ _ _ | refine ifb_dec (fun _ => ?_) (fun _ => ?_) | refine ifb_ieq (fun _ => ?_) (fun _ => ?_) | refine ifb_seq (fun _ => ?_) (fun _ => ?_)) <;> try simp (disch := first | (with_unfolding_all first | exact Lk.mk rfl | exact Seen.of rfl) | assumption | (fail_if_success with_reducible first | refine Seen.of ?_ | apply Sl.frame | apply Ow.frame); omega) only [go_sem, Int.reduceEq, Int.reduceLE, Int.reduceLT, Int.reduceNe, Int.reduceNeg, Int.reduceAdd, Int.reduceSub, Int.reduceMul, Int.reduceToNat, Nat.reduceLT, Nat.reduceLeDiff, Nat.reduceEqDiff, Nat.reduceAdd, Nat.reduceSub, Nat.reduceMul, reduceCtorEq, reduceIte, e0, e1, c1]))
    exact hKK _ _ ⟨rfl, k1⟩
set_option maxHeartbeats 4000000 in
theorem verdictC (O : Nat → Nat) (p : Nat) (s : Sg) (id : Int) (h0 : AH) (hl : LgC O h0 p s) (hi : Inc s) (hn : s.l.length ≤ 1000) :
    callW Try.prog Try.T 14 [.ptr (some (p, 0)), .int .i64 id] h0 fun v h' => v = .int .i64 (look s.l id).2 ∧ Keeps h0.size h0 h' := by
  refine callW_hide fun KK hKK => ?_
  obtain ⟨sl, g, bs, hc, hp, hO, o, t, hbn, hr⟩ := hl
  refine callW_in (n := 15) (rs := [.tmp 4]) (m := 15) Try.func14 rfl rfl rfl rfl fun tr ht => ?_; have e0 := ht 0 _ rfl; have e1 := ht 1 _ rfl; clear ht
  repeat' (first
      | (with_reducible first | refine q_nn ?_ | refine q_nr ?_ | refine q_ne ?_ | refine q_en ?_ | refine q_er ?_ | refine q_es ?_ | refine q_gn ?_ | refine q_gr ?_ | refine q_ge ?_ | refine c_seq ?_ | refine c_block ?_ | refine c_scope ?_ | refine c_skip ?_ | refine c_label ?_ | refine c_ret ?_ | refine c_exit ?_ | (refine hK _ _ ?_; clear hK K) | refine seg_nil ?_) | ((with_reducible refine q_eo ?_ ?_); exact rfl)
      | ((with_reducible first | refine c_reg fun K hK => ?_ | refine c_drw (by decide +kernel) fun K hK => ?_ | refine c_cond ?_ | refine seg_cons fun K hK => ?_ | show endW _ _ _ _ _ | refine ifb_dec (fun _ => ?_) (fun _ => ?_) | refine ifb_ieq (fun _ => ?_) (fun _ => ?_) | refine ifb_seq (fun _ => ?_) (fun _ => ?_)) <;> try simp (disch := first | (with_unfolding_all first | exact Lk.mk rfl | exact Seen.of rfl) | assumption | (fail_if_success with_reducible first | refine Seen.of ?_ | apply Sl.frame | apply Ow.frame); omega) only [go_sem, Int.reduceEq, Int.reduceLE, Int.reduceLT, Int.reduceNe, Int.reduceNeg, Int.reduceAdd, Int.reduceSub, Int.reduceMul, Int.reduceToNat, Nat.reduceLT, Nat.reduceLeDiff, Nat.reduceEqDiff, Nat.reduceAdd, Nat.reduceSub, Nat.reduceMul, reduceCtorEq, reduceIte, e0, e1]))
  refine callM_of (findB O p s id h0 sl g bs hc hp o hbn hr hn) ?_
  rintro v h1 ⟨k1, (⟨hfx, rfl⟩ | ⟨k, b, r, hfx, hrk, rfl, hbk⟩)⟩
  · have hq : look s.l id = (false, 0) := look_no _ _ _ (fidx_no hfx)
    rw [hq] at hKK
    refine vI ?_; repeat' (first
      | (with_reducible first | refine q_nn ?_ | refine q_nr ?_ | refine q_ne ?_ | refine q_en ?_ | refine q_er ?_ | refine q_es ?_ | refine q_gn ?_ | refine q_gr ?_ | refine q_ge ?_ | refine c_seq ?_ | refine c_block ?_ | refine c_scope ?_ | refine c_skip ?_ | refine c_label ?_ | refine c_ret ?_ | refine c_exit ?_ | (refine hK _ _ ?_; clear hK K) | refine seg_nil ?_) | ((with_reducible refine q_eo ?_ ?_); exact rfl)
      | ((with_reducible first | refine vO ?_ | refine c_reg fun K hK => ?_ | refine c_drw (by decide +kernel) fun K hK => ?_ | refine c_cond ?_ | refine seg_cons fun K hK => ?_ | show endW _ _ _ _ _ | refine ifb_dec (fun _ => ?_) (fun _ => ?_) | refine ifb_ieq (fun _ => ?_) (fun _ => ?_) | refine ifb_seq (fun _ => ?_) (fun _ => ?_)) <;> try simp (disch := first | (with_unfolding_all first | exact Lk.mk rfl | exact Seen.of rfl) | assumption | (fail_if_success with_reducible first | refine Seen.of ?_ | apply Sl.frame | apply Ow.frame); omega) only [go_sem, Int.reduceEq, Int.reduceLE, Int.reduceLT, Int.reduceNe, Int.reduceNeg, Int.reduceAdd, Int.reduceSub, Int.reduceMul, Int.reduceToNat, Nat.reduceLT, Nat.reduceLeDiff, Nat.reduceEqDiff, Nat.reduceAdd, Nat.reduceSub, Nat.reduceMul, reduceCtorEq, reduceIte, e0, e1]))
    exact hKK _ _ ⟨rfl, k1⟩
  · have hq : look s.l id = (r.ask.told, r.verdict) := by
      have := fidx_id hfx hrk
      subst this
      exact look_at _ _ _ _ hi.1 hrk
    rw [hq] at hKK
    obtain ⟨_, _, _, _, v1, v2, v3, v4, hcb, hbb, _⟩ := hr k r b hrk hbk
    have c1 := (k1.2 b hbb).trans hcb
    unfold cC at c1
    refine vI ?_; repeat' (first
      | (with_reducible first | refine q_nn ?_ | refine q_nr ?_ | refine q_ne ?_ | refine q_en ?_ | refine q_er ?_ | refine q_es ?_ | refine q_gn ?_ | refine q_gr ?_ | refine q_ge ?_ | refine c_seq ?_ | refine c_block ?_ | refine c_scope ?_ | refine c_skip ?_ | refine c_label ?_ | refine c_ret ?_ | refine c_exit ?_ | (refine hK _ _ ?_; clear hK K) | refine seg_nil ?_) | ((with_reducible refine q_eo ?_ ?_); exact rfl)
      | ((with_reducible first | refine vO ?_ | refine c_reg fun K hK => ?_ | refine c_drw (by decide +kernel) fun K hK => ?_ | refine c_cond ?_ | refine seg_cons fun K hK => ?_ | show endW _ _ _ _ _ | refine ifb_dec (fun _ => ?_) (fun _ => ?_) | refine ifb_ieq (fun _ => ?_) (fun _ => ?_) | refine ifb_seq (fun _ => ?_) (fun _ => ?_)) <;> try simp (disch := first | (with_unfolding_all first | exact Lk.mk rfl | exact Seen.of rfl) | assumption | (fail_if_success with_reducible first | refine Seen.of ?_ | apply Sl.frame | apply Ow.frame); omega) only [go_sem, Int.reduceEq, Int.reduceLE, Int.reduceLT, Int.reduceNe, Int.reduceNeg, Int.reduceAdd, Int.reduceSub, Int.reduceMul, Int.reduceToNat, Nat.reduceLT, Nat.reduceLeDiff, Nat.reduceEqDiff, Nat.reduceAdd, Nat.reduceSub, Nat.reduceMul, reduceCtorEq, reduceIte, e0, e1, c1]))
    exact hKK _ _ ⟨rfl, k1⟩
theorem allC (p : Nat) (h0 : AH) : callW Try.prog Try.T 15 [.ptr (some (p, 0))] h0 fun v h' => v = .func 25 [.ptr (some (h0.size, 0))] ∧ h' = h0.push (.cells [.ptr (some (p, 0))]) := by
  refine callW_in (n := 4) (rs := [.tmp 2]) (m := 4) Try.func15 rfl rfl rfl rfl fun tr ht => ?_; have e0 := ht 0 _ rfl; clear ht
  repeat' (first
      | (with_reducible first | refine q_nn ?_ | refine q_nr ?_ | refine q_ne ?_ | refine q_en ?_ | refine q_er ?_ | refine q_es ?_ | refine q_gn ?_ | refine q_gr ?_ | refine q_ge ?_ | refine c_seq ?_ | refine c_block ?_ | refine c_scope ?_ | refine c_skip ?_ | refine c_label ?_ | refine c_ret ?_ | refine c_exit ?_ | (refine hK _ _ ?_; clear hK K) | refine seg_nil ?_) | ((with_reducible refine q_eo ?_ ?_); exact rfl)
      | ((with_reducible first | refine c_reg fun K hK => ?_ | refine c_drw (by decide +kernel) fun K hK => ?_ | refine c_cond ?_ | refine seg_cons fun K hK => ?_ | show endW _ _ _ _ _ | refine ifb_dec (fun _ => ?_) (fun _ => ?_) | refine ifb_ieq (fun _ => ?_) (fun _ => ?_) | refine ifb_seq (fun _ => ?_) (fun _ => ?_)) <;> try simp (disch := first | (with_unfolding_all first | exact Lk.mk rfl | exact Seen.of rfl) | assumption | (fail_if_success with_reducible first | refine Seen.of ?_ | apply Sl.frame | apply Ow.frame); omega) only [go_sem, Int.reduceEq, Int.reduceLE, Int.reduceLT, Int.reduceNe, Int.reduceNeg, Int.reduceAdd, Int.reduceSub, Int.reduceMul, Int.reduceToNat, Nat.reduceLT, Nat.reduceLeDiff, Nat.reduceEqDiff, Nat.reduceAdd, Nat.reduceSub, Nat.reduceMul, reduceCtorEq, reduceIte, e0]))
set_option maxHeartbeats 4000000 in
/-- A range over All: I holds ahead of round k, Fin behind an early end. -/
theorem ledIter (L c p : Nat) (s : Sg) (sl : AV) (g : Option Nat) (bs : List Nat) (h0 : AH) (Fin : AH → Prop) (I : Nat → AH → Prop) (hn : s.l.length ≤ 1000) (hbn : bs.length = s.l.length)
    (hI : ∀ k h, I k h → h.get c = some (.cells [.ptr (some (p, 0))]) ∧ h.get p = some (.cells [sl, .bool false, .bool s.cl, .bool s.sv]) ∧ OwN EP h g sl bs ∧ ∀ (k : Nat) r b, s.l[k]? = some r → bs[k]? = some b → ∃ v1 v2 v3 v4, h.get b = some (.cells (cC r v1 v2 v3 v4)) ∧ b < h.size) (h0I : I 0 h0)
    (hy : ∀ k h1 r, s.l[k]? = some r → I k h1 → yieldW Try.prog Try.T L [.int .i64 r.id, .int .i64 r.verdict] h1 fun v h2 => v = .bool true ∧ I (k + 1) h2 ∨ v = .bool false ∧ Fin h2)
    (hf : ∀ h, I s.l.length h → Fin h) : callW Try.prog Try.T 25 [.yield L, .ptr (some (c, 0))] h0 fun _ h2 => Fin h2 := by
  refine callW_hide fun KK hKK => ?_
  refine callW_in (n := 28) (rs := []) (m := 28) Try.func25 rfl rfl rfl rfl fun tr ht => ?_; have e0 := ht 0 _ rfl; have e1 := ht 1 _ rfl; clear ht
  obtain ⟨c0, p0, o0, _⟩ := hI _ _ h0I
  have s0 := o0.sl
  repeat' (first
      | (with_reducible first | refine q_nn ?_ | refine q_nr ?_ | refine q_ne ?_ | refine q_en ?_ | refine q_er ?_ | refine q_es ?_ | refine q_gn ?_ | refine q_gr ?_ | refine q_ge ?_ | refine c_seq ?_ | refine c_block ?_ | refine c_scope ?_ | refine c_skip ?_ | refine c_label ?_ | refine c_ret ?_ | refine c_exit ?_ | (refine hK _ _ ?_; clear hK K) | refine seg_nil ?_) | ((with_reducible refine q_eo ?_ ?_); exact rfl)
      | ((with_reducible first | refine c_reg fun K hK => ?_ | refine c_drw (by decide +kernel) fun K hK => ?_ | refine c_cond ?_ | refine seg_cons fun K hK => ?_ | show endW _ _ _ _ _ | refine ifb_dec (fun _ => ?_) (fun _ => ?_) | refine ifb_ieq (fun _ => ?_) (fun _ => ?_) | refine ifb_seq (fun _ => ?_) (fun _ => ?_)) <;> try simp (disch := first | (with_unfolding_all first | exact Lk.mk rfl | exact Seen.of rfl) | assumption | (fail_if_success with_reducible first | refine Seen.of ?_ | apply Sl.frame | apply Ow.frame); omega) only [go_sem, Int.reduceEq, Int.reduceLE, Int.reduceLT, Int.reduceNe, Int.reduceNeg, Int.reduceAdd, Int.reduceSub, Int.reduceMul, Int.reduceToNat, Nat.reduceLT, Nat.reduceLeDiff, Nat.reduceEqDiff, Nat.reduceAdd, Nat.reduceSub, Nat.reduceMul, reduceCtorEq, reduceIte, e0, e1, c0, p0]))
  refine c_loopF 268431376 (fun m tm h => ∃ (k : Nat), tm.get 12 = .int .i64 k ∧ k ≤ s.l.length ∧ I k h ∧ m = s.l.length - k) (s.l.length) (by kernel_rfl) ?_ ?_
  · refine ⟨0, ?_, by omega, h0I, rfl⟩
    (first | with_reducible rfl | (simp (disch := first | (with_unfolding_all first | exact Lk.mk rfl | exact Seen.of rfl) | assumption | (fail_if_success with_reducible first | refine Seen.of ?_ | apply Sl.frame | apply Ow.frame); omega) only [go_sem, Int.reduceEq, Int.reduceLE, Int.reduceLT, Int.reduceNe, Int.reduceNeg, Int.reduceAdd, Int.reduceSub, Int.reduceMul, Int.reduceToNat, Nat.reduceLT, Nat.reduceLeDiff, Nat.reduceEqDiff, Nat.reduceAdd, Nat.reduceSub, Nat.reduceMul, reduceCtorEq, reduceIte] <;> first | with_reducible rfl | (congr 1 <;> omega)))
  · rintro m tr2 h2 ho ⟨k, t12, hk, hi, rfl⟩
    have k0 := ho 0 (Seen.of rfl); simp (disch := first | (with_unfolding_all first | exact Lk.mk rfl | exact Seen.of rfl) | assumption | (fail_if_success with_reducible first | refine Seen.of ?_ | apply Sl.frame | apply Ow.frame); omega) only [go_sem, Int.reduceEq, Int.reduceLE, Int.reduceLT, Int.reduceNe, Int.reduceNeg, Int.reduceAdd, Int.reduceSub, Int.reduceMul, Int.reduceToNat, Nat.reduceLT, Nat.reduceLeDiff, Nat.reduceEqDiff, Nat.reduceAdd, Nat.reduceSub, Nat.reduceMul, reduceCtorEq, reduceIte, e0, e1] at k0; have k1 := ho 1 (Seen.of rfl); simp (disch := first | (with_unfolding_all first | exact Lk.mk rfl | exact Seen.of rfl) | assumption | (fail_if_success with_reducible first | refine Seen.of ?_ | apply Sl.frame | apply Ow.frame); omega) only [go_sem, Int.reduceEq, Int.reduceLE, Int.reduceLT, Int.reduceNe, Int.reduceNeg, Int.reduceAdd, Int.reduceSub, Int.reduceMul, Int.reduceToNat, Nat.reduceLT, Nat.reduceLeDiff, Nat.reduceEqDiff, Nat.reduceAdd, Nat.reduceSub, Nat.reduceMul, reduceCtorEq, reduceIte, e0, e1] at k1; have k10 := ho 10 (Seen.of rfl); simp (disch := first | (with_unfolding_all first | exact Lk.mk rfl | exact Seen.of rfl) | assumption | (fail_if_success with_reducible first | refine Seen.of ?_ | apply Sl.frame | apply Ow.frame); omega) only [go_sem, Int.reduceEq, Int.reduceLE, Int.reduceLT, Int.reduceNe, Int.reduceNeg, Int.reduceAdd, Int.reduceSub, Int.reduceMul, Int.reduceToNat, Nat.reduceLT, Nat.reduceLeDiff, Nat.reduceEqDiff, Nat.reduceAdd, Nat.reduceSub, Nat.reduceMul, reduceCtorEq, reduceIte, e0, e1] at k10; have k11 := ho 11 (Seen.of rfl); simp (disch := first | (with_unfolding_all first | exact Lk.mk rfl | exact Seen.of rfl) | assumption | (fail_if_success with_reducible first | refine Seen.of ?_ | apply Sl.frame | apply Ow.frame); omega) only [go_sem, Int.reduceEq, Int.reduceLE, Int.reduceLT, Int.reduceNe, Int.reduceNeg, Int.reduceAdd, Int.reduceSub, Int.reduceMul, Int.reduceToNat, Nat.reduceLT, Nat.reduceLeDiff, Nat.reduceEqDiff, Nat.reduceAdd, Nat.reduceSub, Nat.reduceMul, reduceCtorEq, reduceIte, e0, e1] at k11
    obtain ⟨c2, p2, o2, r2⟩ := hI _ _ hi
    have s2 := o2.sl
    by_cases hc : k < s.l.length
    · have hrk : s.l[k]? = some s.l[k] := List.getElem?_eq_getElem hc
      have hbk : bs[k]? = some bs[k] := List.getElem?_eq_getElem (by omega)
      obtain ⟨v1, v2, v3, v4, hcb, hbb⟩ := r2 k _ _ hrk hbk
      have ld := ldP s2 hbk
      generalize s.l[k] = r at *
      generalize bs[k] = b at *
      unfold cC at hcb
      repeat' (first
      | (with_reducible first | refine q_nn ?_ | refine q_nr ?_ | refine q_ne ?_ | refine q_en ?_ | refine q_er ?_ | refine q_es ?_ | refine q_gn ?_ | refine q_gr ?_ | refine q_ge ?_ | refine c_seq ?_ | refine c_block ?_ | refine c_scope ?_ | refine c_skip ?_ | refine c_label ?_ | refine c_ret ?_ | refine c_exit ?_ | (refine hK _ _ ?_; clear hK K) | refine seg_nil ?_) | ((with_reducible refine q_eo ?_ ?_); exact rfl)
      | ((with_reducible first | refine c_reg fun K hK => ?_ | refine c_drw (by decide +kernel) fun K hK => ?_ | refine c_cond ?_ | refine seg_cons fun K hK => ?_ | show endW _ _ _ _ _ | refine ifb_dec (fun _ => ?_) (fun _ => ?_) | refine ifb_ieq (fun _ => ?_) (fun _ => ?_) | refine ifb_seq (fun _ => ?_) (fun _ => ?_)) <;> try simp (disch := first | (with_unfolding_all first | exact Lk.mk rfl | exact Seen.of rfl) | assumption | (fail_if_success with_reducible first | refine Seen.of ?_ | apply Sl.frame | apply Ow.frame); omega) only [go_sem, Int.reduceEq, Int.reduceLE, Int.reduceLT, Int.reduceNe, Int.reduceNeg, Int.reduceAdd, Int.reduceSub, Int.reduceMul, Int.reduceToNat, Nat.reduceLT, Nat.reduceLeDiff, Nat.reduceEqDiff, Nat.reduceAdd, Nat.reduceSub, Nat.reduceMul, reduceCtorEq, reduceIte, k0, k1, k10, k11, t12, ld, hcb]))
      refine yieldM_of (hy k h2 r hrk hi) ?_
      rintro v h3 (⟨rfl, hi3⟩ | ⟨rfl, hF⟩)
      · refine vI ?_; repeat' (first
      | (with_reducible first | refine q_nn ?_ | refine q_nr ?_ | refine q_ne ?_ | refine q_en ?_ | refine q_er ?_ | refine q_es ?_ | refine q_gn ?_ | refine q_gr ?_ | refine q_ge ?_ | refine c_seq ?_ | refine c_block ?_ | refine c_scope ?_ | refine c_skip ?_ | refine c_label ?_ | refine c_ret ?_ | refine c_exit ?_ | (refine hK _ _ ?_; clear hK K) | refine seg_nil ?_) | ((with_reducible refine q_eo ?_ ?_); exact rfl)
      | ((with_reducible first | refine vO ?_ | refine c_reg fun K hK => ?_ | refine c_drw (by decide +kernel) fun K hK => ?_ | refine c_cond ?_ | refine seg_cons fun K hK => ?_ | show endW _ _ _ _ _ | refine ifb_dec (fun _ => ?_) (fun _ => ?_) | refine ifb_ieq (fun _ => ?_) (fun _ => ?_) | refine ifb_seq (fun _ => ?_) (fun _ => ?_)) <;> try simp (disch := first | (with_unfolding_all first | exact Lk.mk rfl | exact Seen.of rfl) | assumption | (fail_if_success with_reducible first | refine Seen.of ?_ | apply Sl.frame | apply Ow.frame); omega) only [go_sem, Int.reduceEq, Int.reduceLE, Int.reduceLT, Int.reduceNe, Int.reduceNeg, Int.reduceAdd, Int.reduceSub, Int.reduceMul, Int.reduceToNat, Nat.reduceLT, Nat.reduceLeDiff, Nat.reduceEqDiff, Nat.reduceAdd, Nat.reduceSub, Nat.reduceMul, reduceCtorEq, reduceIte, k0, k1, k10, k11, t12]))
        try dsimp only
        refine ⟨rfl, s.l.length - (k + 1), by omega, k + 1, ?_, by omega, hi3, rfl⟩
        (first | with_reducible rfl | (simp (disch := first | (with_unfolding_all first | exact Lk.mk rfl | exact Seen.of rfl) | assumption | (fail_if_success with_reducible first | refine Seen.of ?_ | apply Sl.frame | apply Ow.frame); omega) only [go_sem, Int.reduceEq, Int.reduceLE, Int.reduceLT, Int.reduceNe, Int.reduceNeg, Int.reduceAdd, Int.reduceSub, Int.reduceMul, Int.reduceToNat, Nat.reduceLT, Nat.reduceLeDiff, Nat.reduceEqDiff, Nat.reduceAdd, Nat.reduceSub, Nat.reduceMul, reduceCtorEq, reduceIte, t12] <;> first | with_reducible rfl | (congr 1 <;> omega)))
      · refine vI ?_; repeat' (first
      | (with_reducible first | refine q_nn ?_ | refine q_nr ?_ | refine q_ne ?_ | refine q_en ?_ | refine q_er ?_ | refine q_es ?_ | refine q_gn ?_ | refine q_gr ?_ | refine q_ge ?_ | refine c_seq ?_ | refine c_block ?_ | refine c_scope ?_ | refine c_skip ?_ | refine c_label ?_ | refine c_ret ?_ | refine c_exit ?_ | (refine hK _ _ ?_; clear hK K) | refine seg_nil ?_) | ((with_reducible refine q_eo ?_ ?_); exact rfl)
      | ((with_reducible first | refine vO ?_ | refine c_reg fun K hK => ?_ | refine c_drw (by decide +kernel) fun K hK => ?_ | refine c_cond ?_ | refine seg_cons fun K hK => ?_ | show endW _ _ _ _ _ | refine ifb_dec (fun _ => ?_) (fun _ => ?_) | refine ifb_ieq (fun _ => ?_) (fun _ => ?_) | refine ifb_seq (fun _ => ?_) (fun _ => ?_)) <;> try simp (disch := first | (with_unfolding_all first | exact Lk.mk rfl | exact Seen.of rfl) | assumption | (fail_if_success with_reducible first | refine Seen.of ?_ | apply Sl.frame | apply Ow.frame); omega) only [go_sem, Int.reduceEq, Int.reduceLE, Int.reduceLT, Int.reduceNe, Int.reduceNeg, Int.reduceAdd, Int.reduceSub, Int.reduceMul, Int.reduceToNat, Nat.reduceLT, Nat.reduceLeDiff, Nat.reduceEqDiff, Nat.reduceAdd, Nat.reduceSub, Nat.reduceMul, reduceCtorEq, reduceIte, k0, k1, k10, k11, t12]))
        exact hKK _ _ hF
    · have : k = s.l.length := by omega
      subst this
      repeat' (first
      | (with_reducible first | refine q_nn ?_ | refine q_nr ?_ | refine q_ne ?_ | refine q_en ?_ | refine q_er ?_ | refine q_es ?_ | refine q_gn ?_ | refine q_gr ?_ | refine q_ge ?_ | refine c_seq ?_ | refine c_block ?_ | refine c_scope ?_ | refine c_skip ?_ | refine c_label ?_ | refine c_ret ?_ | refine c_exit ?_ | (refine hK _ _ ?_; clear hK K) | refine seg_nil ?_) | ((with_reducible refine q_eo ?_ ?_); exact rfl)
      | ((with_reducible first | refine c_reg fun K hK => ?_ | refine c_drw (by decide +kernel) fun K hK => ?_ | refine c_cond ?_ | refine seg_cons fun K hK => ?_ | show endW _ _ _ _ _ | refine ifb_dec (fun _ => ?_) (fun _ => ?_) | refine ifb_ieq (fun _ => ?_) (fun _ => ?_) | refine ifb_seq (fun _ => ?_) (fun _ => ?_)) <;> try simp (disch := first | (with_unfolding_all first | exact Lk.mk rfl | exact Seen.of rfl) | assumption | (fail_if_success with_reducible first | refine Seen.of ?_ | apply Sl.frame | apply Ow.frame); omega) only [go_sem, Int.reduceEq, Int.reduceLE, Int.reduceLT, Int.reduceNe, Int.reduceNeg, Int.reduceAdd, Int.reduceSub, Int.reduceMul, Int.reduceToNat, Nat.reduceLT, Nat.reduceLeDiff, Nat.reduceEqDiff, Nat.reduceAdd, Nat.reduceSub, Nat.reduceMul, reduceCtorEq, reduceIte, k0, k1, k10, k11, t12]))
      exact hKK _ _ (hf _ hi)
end Go.Proofs.Ytanbckdhlmhdeaa
