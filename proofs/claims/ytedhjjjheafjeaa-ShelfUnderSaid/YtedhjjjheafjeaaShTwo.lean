/- shelf: code and reference side by side; what the doings keep; do. -/
import Derived.Test.YtedhjjjheafjeaaShEI
import Derived.Test.YtedhjjjheafjeaaShRef2
import Derived.Test.YtedhjjjheafjeaaAbsB
import Derived.Test.YtedhjjjheafjeaaAbsshelfSeat
set_option linter.unusedSimpArgs false
set_option linter.unusedVariables false
namespace Go.Proofs.Ytedhjjjheafjeaa
open Go.Abs
set_option maxRecDepth 100000
/-- Both shelves in memory, apart from each other and from F. -/
def Two (F : Nat → Prop) (h : AH) (p q : Nat) (s : Sh Int) : Prop := ∃ Oc Or, ShC LI Oc h p s ∧ ShR Or h q (rOf s) ∧ (∀ x, Oc x = 0 ∨ Or x = 0) ∧ ∀ x, F x → x < h.size ∧ Oc x = 0 ∧ Or x = 0
section two
variable {F F' : Nat → Prop} {h h' h1 h2 : AH} {p q : Nat} {s s' : Sh Int}
theorem Two.keep (t : Two F h p q s) (k : Keeps h.size h h') (hF : ∀ x, F' x → F x ∨ h.size ≤ x ∧ x < h'.size) : Two F' h' p q s := by
  obtain ⟨Oc, Or, hc, hr, hd, hf⟩ := t
  refine ⟨_, _, hc.after k, hr.after k, fun x => ?_, fun x hx => ?_⟩
  · unfold O1
    by_cases hx : x < h.size
    · rw [if_pos hx, if_pos hx]; exact hd x
    · rw [if_neg hx]; exact .inl rfl
  · unfold O1
    rcases hF x hx with h1 | ⟨h1, h2⟩
    · obtain ⟨a, b, c⟩ := hf x h1
      rw [if_pos a, if_pos a]
      exact ⟨by have := k.1; omega, b, c⟩
    · rw [if_neg (by omega)]
      exact ⟨h2, rfl, by rw [if_neg (by omega)]⟩
/-- What is the law's own may change. -/
theorem Two.own (t : Two F h p q s) (hz : h.size ≤ h'.size) (hf : ∀ x, x < h.size → ¬ F x → h'.get x = h.get x) : Two F h' p q s := by
  obtain ⟨Oc, Or, hc, hr, hd, hF⟩ := t
  have ne : ∀ x, F x → Oc x = 0 ∧ Or x = 0 := fun x hx => (hF x hx).2
  exact ⟨Oc, Or, hc.frame (fun x hx h0 => hf x hx (fun e => h0 (ne x e).1)) hz (fun _ _ => rfl), hr.frame (fun x hx h0 => hf x hx (fun e => h0 (ne x e).2)) hz (fun _ _ => rfl), hd, fun x hx => ⟨by have := (hF x hx).1; omega, ne x hx⟩⟩
theorem ShR.skipC {Oc Or : Nat → Nat} {r : R4} {α : Type} {E : Enc (Int × α)} {sc : Sh α} (hr : ShR Or h q r) (hd : ∀ x, Oc x = 0 ∨ Or x = 0) (st : StC E Oc h h1 p sc) : ShR (O1 Or h) h1 q r := by
  obtain ⟨z1, f1, O', a1, l1⟩ := st
  exact hr.frame (fun x hx hx0 => f1 x hx ((hd x).resolve_right hx0)) z1 (fun x hx => if_pos hx)
theorem two_next {Oc Or : Nat → Nat} (hd : ∀ x, Oc x = 0 ∨ Or x = 0) (hF : ∀ x, F x → x < h.size ∧ Oc x = 0 ∧ Or x = 0) (st : StC LI Oc h h1 p s') (st' : StR (O1 Or h) h1 h2 q (rOf s')) : Two F h2 p q s' ∧ (∀ x, x < h.size → Oc x = 0 → Or x = 0 → h2.get x = h.get x) ∧ h.size ≤ h2.size := by
  obtain ⟨z1, f1, O', a1, l1⟩ := st
  obtain ⟨z2, f2, O2, a2, l2⟩ := st'
  have z : ∀ x, x < h1.size → ¬ O' x = 0 → O1 Or h x = 0 := fun x hx hx0 => by
    unfold O1
    by_cases e : x < h.size
    · rw [if_pos e]; rw [a1 x e] at hx0; exact (hd x).resolve_left hx0
    · rw [if_neg e]
  refine ⟨⟨O1 O' h1, O2, l1.frame (fun x hx hx0 => f2 x hx (z x hx hx0)) z2 (fun x hx => if_pos hx), l2, fun x => ?_, fun x hx => ?_⟩, fun x hx c0 r0 => ?_, by omega⟩
  · by_cases e : x < h1.size
    · by_cases c0 : O' x = 0
      · left; unfold O1; rw [if_pos e]; exact c0
      · right; rw [a2 x e]; exact z x e c0
    · left; unfold O1; rw [if_neg e]
  · obtain ⟨a, b, c⟩ := hF x hx
    refine ⟨by omega, ?_, ?_⟩
    · unfold O1; rw [if_pos (by omega), a1 x a]; exact b
    · rw [a2 x (by omega)]; unfold O1; rw [if_pos a]; exact c
  · rw [f2 x (by omega) (by unfold O1; rw [if_pos hx]; exact r0), f1 x hx c0]
end two
/-! What the doings keep -/
section ok
variable {α : Type} {s : Sh α} {n : Nat}
theorem buryT_len {t : List (Int × Int)} {id why : Int} (h : t.length ≤ 16) : (buryT t id why).length ≤ 16 := by
  unfold buryT
  rw [List.length_drop, List.length_append]; simp only [List.length_cons, List.length_nil]; omega
theorem buryT_mem {t : List (Int × Int)} {id why : Int} {x : Int × Int} (h : x ∈ buryT t id why) : x ∈ t ∨ x = (id, why) := by
  have := List.mem_of_mem_drop h
  rcases List.mem_append.1 this with h | h
  · exact .inl h
  · exact .inr (by simpa using h)
theorem freshE_0 {top id : Int} (h : freshE top id = 0) : 1 ≤ id ∧ id ≤ 2147483647 ∧ top < id := by
  unfold freshE at h
  split at h
  · omega
  · split at h <;> omega
theorem ShOk.up (ok : ShOk s n) : ShOk s (n + 1) := ⟨ok.so, ok.lo, ok.tb, ok.tl, ok.tp, by have := ok.ln; omega⟩
theorem ShOk.openS (ok : ShOk s n) (id : Int) (v : α) : ShOk (openS s id v) (n + 1) := by
  unfold Go.Proofs.Ytedhjjjheafjeaa.openS
  split
  · rename_i hf
    obtain ⟨a, b, c⟩ := freshE_0 hf
    obtain ⟨so, lo, tb, tl, tp, ln⟩ := ok
    refine ⟨?_, fun x hx => ?_, fun x hx => ?_, tl, ⟨by simp only; omega, by simp only; omega⟩, by simp only [List.length_append, List.length_cons, List.length_nil]; omega⟩
    · unfold Sorted at so ⊢
      rw [List.map_append, List.pairwise_append]
      refine ⟨so, by simp, fun x hx y hy => ?_⟩
      simp only [List.map_cons, List.map_nil, List.mem_singleton] at hy
      obtain ⟨w, hw, rfl⟩ := List.mem_map.1 hx
      have := lo w hw
      omega
    · rcases List.mem_append.1 hx with h | h
      · have := lo x h; simp only; omega
      · simp only [List.mem_singleton] at h; subst h; simp only; omega
    · have := tb x hx; simp only; omega
  · exact ok.up
theorem ShOk.skipS (ok : ShOk s n) (id why : Int) : ShOk (skipS s id why) (n + 1) := by
  unfold Go.Proofs.Ytedhjjjheafjeaa.skipS
  split
  · rename_i hf
    have hf : freshE s.top id = 0 := by
      unfold skipE at hf
      split at hf
      · exact hf
      · omega
    obtain ⟨a, b, c⟩ := freshE_0 hf
    obtain ⟨so, lo, tb, tl, tp, ln⟩ := ok
    refine ⟨so, fun x hx => ?_, fun x hx => ?_, buryT_len tl, ⟨by simp only; omega, by simp only; omega⟩, by simp only; omega⟩
    · have := lo x hx; simp only; omega
    · rcases buryT_mem hx with h | h
      · have := tb x h; simp only; omega
      · subst h; simp only; omega
  · exact ok.up
theorem set_fst {β : Type} {l : List (Int × β)} {k : Nat} {y : Int × β} {id : Int} {x : β} (hy : l[k]? = some y) (he : y.1 = id) : (l.set k (id, x)).map (·.1) = l.map (·.1) := by
  rw [List.map_set]
  refine List.ext_getElem? fun j => ?_
  rw [List.getElem?_set]
  split
  · subst_vars
    have := (List.getElem?_eq_some_iff.1 hy).1
    split
    · rw [List.getElem?_map, hy]; rfl
    · simp at *; omega
  · rfl
theorem mem_fst {β : Type} {l l' : List (Int × β)} (h : l'.map (·.1) = l.map (·.1)) {x : Int × β} (hx : x ∈ l') : ∃ y ∈ l, y.1 = x.1 := by
  have : x.1 ∈ l'.map (·.1) := List.mem_map.2 ⟨x, hx, rfl⟩
  rw [h] at this
  obtain ⟨y, a, b⟩ := List.mem_map.1 this
  exact ⟨y, a, b⟩
theorem ShOk.setS (ok : ShOk s n) (id : Int) (v : α) : ShOk (setS s id v) (n + 1) := by
  unfold Go.Proofs.Ytedhjjjheafjeaa.setS
  split
  · rename_i k hk
    obtain ⟨y, hy, he, _⟩ := fpos_get hk
    have hm := set_fst (x := v) hy he
    obtain ⟨so, lo, tb, tl, tp, ln⟩ := ok
    refine ⟨?_, fun x hx => ?_, tb, tl, tp, by simp only [List.length_set]; omega⟩
    · unfold Sorted at so ⊢; simp only; rw [hm]; exact so
    · obtain ⟨z, a, b⟩ := mem_fst hm hx
      have := lo z a; simp only; omega
  · exact ok.up
theorem ShOk.closeS (ok : ShOk s n) (id why : Int) : ShOk (closeS s id why) (n + 1) := by
  unfold Go.Proofs.Ytedhjjjheafjeaa.closeS
  split
  · split
    · rename_i k hk
      obtain ⟨y, hy, he, _⟩ := fpos_get hk
      obtain ⟨so, lo, tb, tl, tp, ln⟩ := ok
      have hsub : (s.l.eraseIdx k).Sublist s.l := List.eraseIdx_sublist s.l k
      refine ⟨?_, fun x hx => lo x (hsub.subset hx), fun x hx => ?_, buryT_len tl, tp, by simp only; have := hsub.length_le; omega⟩
      · unfold Sorted at so ⊢
        exact so.sublist (hsub.map _)
      · rcases buryT_mem hx with h | h
        · exact tb x h
        · subst h
          have := lo y (List.mem_of_getElem? hy)
          simp only; omega
    · exact ok.up
  · exact ok.up
theorem ShOk.turnS (ok : ShOk s n) (id why : Int) : ShOk (turnS s id why) (n + 1) := by
  unfold Go.Proofs.Ytedhjjjheafjeaa.turnS
  split
  · split
    · rename_i k hk
      obtain ⟨y, hy, he, _⟩ := fpos_get hk
      have hm := set_fst (x := why) hy he
      obtain ⟨so, lo, tb, tl, tp, ln⟩ := ok
      refine ⟨so, lo, fun x hx => ?_, by simp only [List.length_set]; omega, tp, by simp only; omega⟩
      obtain ⟨z, a, b⟩ := mem_fst hm hx
      have := tb z a; simp only; omega
    · exact ok.up
  · exact ok.up
end ok
/-! The reference's lists behind a doing -/
theorem rOf_open (s : Sh Int) (id v : Int) : (if freshE (rOf s).top id = 0 then { rOf s with a := (rOf s).a ++ [id], b := (rOf s).b ++ [v], top := id } else rOf s) = rOf (openS s id v) := by
  unfold openS rOf
  simp only
  split <;> simp
theorem rOf_skip (s : Sh Int) (id why : Int) (h : s.t.length ≤ 16) : (if (if mayB why = true then freshE (rOf s).top id else 1) = 0 then { rOf s with c := bI (rOf s).c id, d := bI (rOf s).d why, top := id } else rOf s) = rOf (skipS s id why) := by
  have hb := bury_fst (id := id) (why := why) h
  have e : (if mayB why = true then freshE (rOf s).top id else 1) = skipE s id why := rfl
  rw [e]
  unfold skipS
  by_cases h0 : skipE s id why = 0
  · rw [if_pos h0, if_pos h0]
    simp only [rOf, hb.1, hb.2]
  · rw [if_neg h0, if_neg h0]
theorem rOf_set (s : Sh Int) (id v : Int) : (match idx (rOf s).a id with | some k => { rOf s with b := (rOf s).b.set k v } | none => rOf s) = rOf (setS s id v) := by
  have e : idx (rOf s).a id = fpos s.l id := idx_map
  rw [e]
  unfold setS
  cases hf : fpos s.l id with
  | none => rfl
  | some k =>
    obtain ⟨y, hy, he, _⟩ := fpos_get hf
    simp only [rOf, set_fst hy he, List.map_set]
theorem eraseIdx_map' {α β : Type} (f : α → β) (l : List α) (k : Nat) : (l.eraseIdx k).map f = (l.map f).eraseIdx k := by
  rw [List.eraseIdx_eq_take_drop_succ, List.eraseIdx_eq_take_drop_succ, List.map_append, List.map_take, List.map_drop]
theorem rOf_close (s : Sh Int) (id why : Int) (h : s.t.length ≤ 16) : (if mayB why = true then (match idx (rOf s).a id with | some k => { rOf s with a := (rOf s).a.eraseIdx k, b := (rOf s).b.eraseIdx k, c := bI (rOf s).c id, d := bI (rOf s).d why } | none => rOf s) else rOf s) = rOf (closeS s id why) := by
  have hb := bury_fst (id := id) (why := why) h
  have e : idx (rOf s).a id = fpos s.l id := idx_map
  rw [e]
  unfold closeS
  split
  · cases hf : fpos s.l id with
    | none => rfl
    | some k => simp only [rOf, hb.1, hb.2, eraseIdx_map']
  · rfl
theorem rOf_turn (s : Sh Int) (id why : Int) : (if mayB why = true then (match idx (rOf s).c id with | some k => { rOf s with d := (rOf s).d.set k why } | none => rOf s) else rOf s) = rOf (turnS s id why) := by
  have e : idx (rOf s).c id = fpos s.t id := idx_map
  rw [e]
  unfold turnS
  split
  · cases hf : fpos s.t id with
    | none => rfl
    | some k =>
      obtain ⟨y, hy, he, _⟩ := fpos_get hf
      simp only [rOf, set_fst hy he, List.map_set]
  · rfl
abbrev Opn := Int × Int × Int
def EO : Enc Opn := ⟨3, fun x => [.int .i64 x.1, .int .i64 x.2.1, .int .i64 x.2.2], by decide, fun _ => rfl, fun _ => rfl⟩
theorem EOf {a b c : Int} : EO.f (a, b, c) = [.int .i64 a, .int .i64 b, .int .i64 c] := rfl
def opS (o : Opn) (s : Sh Int) : Sh Int := if o.1 = 0 then openS s o.2.1 o.2.2 else if o.1 = 1 then skipS s o.2.1 o.2.2 else if o.1 = 2 then setS s o.2.1 o.2.2 else if o.1 = 3 then closeS s o.2.1 o.2.2 else turnS s o.2.1 o.2.2
theorem ShOk.opS {s : Sh Int} {n : Nat} (ok : ShOk s n) (o : Opn) : ShOk (opS o s) (n + 1) := by
  unfold Go.Proofs.Ytedhjjjheafjeaa.opS
  split
  · exact ok.openS _ _
  split
  · exact ok.skipS _ _
  split
  · exact ok.setS _ _
  split
  · exact ok.closeS _ _
  · exact ok.turnS _ _
set_option maxHeartbeats 8000000 in
theorem doOp (F : Nat → Prop) (p q : Nat) (s : Sh Int) (o : Opn) (h0 : AH) (n : Nat) (t : Two F h0 p q s) (ok : ShOk s n) (hn : n ≤ 900) :
    callW Try.prog Try.T 10 [.ptr (some (p, 0)), .ptr (some (q, 0)), .agg (EO.f o)] h0 fun v h' => v = .bool true ∧ Two F h' p q (opS o s) ∧ (∀ x, F x → h'.get x = h0.get x) ∧ h0.size ≤ h'.size := by
  obtain ⟨kd, id, x⟩ := o
  refine callW_hide fun KK hKK => ?_
  have zF : ∀ x, F x → x < h0.size := fun x hx => by
    obtain ⟨_, _, _, _, _, hF⟩ := t
    exact (hF x hx).1
  refine callW_in (n := 82) (rs := [.tmp 6]) (m := 82) Try.func10 rfl rfl rfl rfl fun tr ht => ?_; have e0 := ht 0 _ rfl; have e1 := ht 1 _ rfl; have e2 := ht 2 _ rfl; clear ht
  rw [EOf] at e2
  refine c_seq ?_
  refine c_reg fun K hK => ?_
  simp (disch := first | (with_unfolding_all first | exact Lk.mk rfl | exact Seen.of rfl) | assumption | (fail_if_success with_reducible first | refine Seen.of ?_ | apply Sl.frame | apply Ow.frame); omega) only [go_sem, Int.reduceEq, Int.reduceLE, Int.reduceLT, Int.reduceNe, Int.reduceNeg, Int.reduceAdd, Int.reduceSub, Int.reduceMul, Int.reduceToNat, Nat.reduceLT, Nat.reduceLeDiff, Nat.reduceEqDiff, Nat.reduceAdd, Nat.reduceSub, Nat.reduceMul, reduceCtorEq, reduceIte, e0, e1, e2]
  refine hK _ _ ?_
  clear hK K
  refine q_nn ?_
  refine c_hide fun h1 hh1 => ?_
  have k1 : Keeps h0.size h0 h1 := by rw [hh1]; exact (Keeps.refl _ _).push (Nat.le_refl _) _
  have z1 : h1.size = h0.size + 1 := by rw [hh1]; simp (disch := first | (with_unfolding_all first | exact Lk.mk rfl | exact Seen.of rfl) | assumption | (fail_if_success with_reducible first | refine Seen.of ?_ | apply Sl.frame | apply Ow.frame); omega) only [go_sem, Int.reduceEq, Int.reduceLE, Int.reduceLT, Int.reduceNe, Int.reduceNeg, Int.reduceAdd, Int.reduceSub, Int.reduceMul, Int.reduceToNat, Nat.reduceLT, Nat.reduceLeDiff, Nat.reduceEqDiff, Nat.reduceAdd, Nat.reduceSub, Nat.reduceMul, reduceCtorEq, reduceIte]
  have bx : h1.get h0.size = some (.cells [.int .i64 kd, .int .i64 id, .int .i64 x]) := by rw [hh1]; simp (disch := first | (with_unfolding_all first | exact Lk.mk rfl | exact Seen.of rfl) | assumption | (fail_if_success with_reducible first | refine Seen.of ?_ | apply Sl.frame | apply Ow.frame); omega) only [go_sem, Int.reduceEq, Int.reduceLE, Int.reduceLT, Int.reduceNe, Int.reduceNeg, Int.reduceAdd, Int.reduceSub, Int.reduceMul, Int.reduceToNat, Nat.reduceLT, Nat.reduceLeDiff, Nat.reduceEqDiff, Nat.reduceAdd, Nat.reduceSub, Nat.reduceMul, reduceCtorEq, reduceIte]
  clear hh1
  have t1 := t.keep (F' := fun b => F b ∨ b = h0.size) k1 (fun b hb => by rcases hb with h | h; exact .inl h; exact .inr (by omega))
  obtain ⟨Oc, Or, hc, hr, hd, hF⟩ := t1
  have hln := ok.ln
  have htl := ok.tl
  have la : (rOf s).a.length ≤ 1000 := by unfold rOf; simp only [List.length_map]; omega
  have lb : (rOf s).b.length = (rOf s).a.length := by unfold rOf; simp only [List.length_map]
  have lc : (rOf s).c.length ≤ 16 := by unfold rOf; simp only [List.length_map]; omega
  have ld : (rOf s).d.length = (rOf s).c.length := by unfold rOf; simp only [List.length_map]
  have fin : ∀ (h2 h3 : AH) (s' : Sh Int), StC LI Oc h1 h2 p s' → StR (O1 Or h1) h2 h3 q (rOf s') → s' = opS (kd, id, x) s → KK (.bool true) h3 := fun h2 h3 s' a b e => by
    obtain ⟨x1, x2, x3⟩ := two_next hd hF a b
    refine hKK _ _ ⟨rfl, ?_, fun y hy => ?_, by omega⟩
    · rw [← e]; exact x1.keep (Keeps.refl _ _) (fun y hy => .inl (.inl hy))
    · rw [x2 y (by have := zF y hy; omega) (hF y (.inl hy)).2.1 (hF y (.inl hy)).2.2, k1.2 y (zF y hy)]
  have bk : ∀ (h2 : AH) (s' : Sh Int), StC LI Oc h1 h2 p s' → h2.get h0.size = some (.cells [.int .i64 kd, .int .i64 id, .int .i64 x]) := fun h2 s' a => (a.2.1 h0.size (by omega) (hF _ (.inr rfl)).2.1).trans bx
  unfold opS at fin
  simp only at fin
  clear hKK
  by_cases d0 : kd = 0
  · subst d0
    simp only [if_true] at fin
    repeat' (first
      | (with_reducible first | refine q_nn ?_ | refine q_nr ?_ | refine q_ne ?_ | refine q_en ?_ | refine q_er ?_ | refine q_es ?_ | refine q_gn ?_ | refine q_gr ?_ | refine q_ge ?_ | refine c_seq ?_ | refine c_block ?_ | refine c_scope ?_ | refine c_skip ?_ | refine c_label ?_ | refine c_ret ?_ | refine c_exit ?_ | (refine hK _ _ ?_; clear hK K) | refine seg_nil ?_) | ((with_reducible refine q_eo ?_ ?_); exact rfl)
      | ((with_reducible first | refine c_reg fun K hK => ?_ | refine c_drw (by decide +kernel) fun K hK => ?_ | refine c_cond ?_ | refine seg_cons fun K hK => ?_ | show endW _ _ _ _ _ | refine ifb_dec (fun _ => ?_) (fun _ => ?_) | refine ifb_ieq (fun _ => ?_) (fun _ => ?_) | refine ifb_seq (fun _ => ?_) (fun _ => ?_)) <;> try simp (disch := first | (with_unfolding_all first | exact Lk.mk rfl | exact Seen.of rfl) | assumption | (fail_if_success with_reducible first | refine Seen.of ?_ | apply Sl.frame | apply Ow.frame); omega) only [go_sem, Int.reduceEq, Int.reduceLE, Int.reduceLT, Int.reduceNe, Int.reduceNeg, Int.reduceAdd, Int.reduceSub, Int.reduceMul, Int.reduceToNat, Nat.reduceLT, Nat.reduceLeDiff, Nat.reduceEqDiff, Nat.reduceAdd, Nat.reduceSub, Nat.reduceMul, reduceCtorEq, reduceIte, e0, e1, bx]))
    refine callM_of (openI Oc p s id x h1 hc (by omega)) ?_
    rintro v h2 ⟨rfl, st⟩
    have b2 := bk h2 _ st
    refine vI ?_; repeat' (first
      | (with_reducible first | refine q_nn ?_ | refine q_nr ?_ | refine q_ne ?_ | refine q_en ?_ | refine q_er ?_ | refine q_es ?_ | refine q_gn ?_ | refine q_gr ?_ | refine q_ge ?_ | refine c_seq ?_ | refine c_block ?_ | refine c_scope ?_ | refine c_skip ?_ | refine c_label ?_ | refine c_ret ?_ | refine c_exit ?_ | (refine hK _ _ ?_; clear hK K) | refine seg_nil ?_) | ((with_reducible refine q_eo ?_ ?_); exact rfl)
      | ((with_reducible first | refine vO ?_ | refine c_reg fun K hK => ?_ | refine c_drw (by decide +kernel) fun K hK => ?_ | refine c_cond ?_ | refine seg_cons fun K hK => ?_ | show endW _ _ _ _ _ | refine ifb_dec (fun _ => ?_) (fun _ => ?_) | refine ifb_ieq (fun _ => ?_) (fun _ => ?_) | refine ifb_seq (fun _ => ?_) (fun _ => ?_)) <;> try simp (disch := first | (with_unfolding_all first | exact Lk.mk rfl | exact Seen.of rfl) | assumption | (fail_if_success with_reducible first | refine Seen.of ?_ | apply Sl.frame | apply Ow.frame); omega) only [go_sem, Int.reduceEq, Int.reduceLE, Int.reduceLT, Int.reduceNe, Int.reduceNeg, Int.reduceAdd, Int.reduceSub, Int.reduceMul, Int.reduceToNat, Nat.reduceLT, Nat.reduceLeDiff, Nat.reduceEqDiff, Nat.reduceAdd, Nat.reduceSub, Nat.reduceMul, reduceCtorEq, reduceIte, e0, e1, b2]))
    refine callM_of (ropen (O1 Or h1) q (rOf s) id x h2 (hr.skipC hd st) la (by omega)) ?_
    rintro v h3 ⟨hv, st'⟩
    have st' : StR (O1 Or h1) h2 h3 q (rOf (openS s id x)) := by rw [← rOf_open]; exact st'
    obtain rfl : v = .int .i64 (freshE s.top id) := hv
    refine vI ?_; repeat' (first
      | (with_reducible first | refine q_nn ?_ | refine q_nr ?_ | refine q_ne ?_ | refine q_en ?_ | refine q_er ?_ | refine q_es ?_ | refine q_gn ?_ | refine q_gr ?_ | refine q_ge ?_ | refine c_seq ?_ | refine c_block ?_ | refine c_scope ?_ | refine c_skip ?_ | refine c_label ?_ | refine c_ret ?_ | refine c_exit ?_ | (refine hK _ _ ?_; clear hK K) | refine seg_nil ?_) | ((with_reducible refine q_eo ?_ ?_); exact rfl)
      | ((with_reducible first | refine vO ?_ | refine c_reg fun K hK => ?_ | refine c_drw (by decide +kernel) fun K hK => ?_ | refine c_cond ?_ | refine seg_cons fun K hK => ?_ | show endW _ _ _ _ _ | refine ifb_dec (fun _ => ?_) (fun _ => ?_) | refine ifb_ieq (fun _ => ?_) (fun _ => ?_) | refine ifb_seq (fun _ => ?_) (fun _ => ?_)) <;> try simp (disch := first | (with_unfolding_all first | exact Lk.mk rfl | exact Seen.of rfl) | assumption | (fail_if_success with_reducible first | refine Seen.of ?_ | apply Sl.frame | apply Ow.frame); omega) only [go_sem, Int.reduceEq, Int.reduceLE, Int.reduceLT, Int.reduceNe, Int.reduceNeg, Int.reduceAdd, Int.reduceSub, Int.reduceMul, Int.reduceToNat, Nat.reduceLT, Nat.reduceLeDiff, Nat.reduceEqDiff, Nat.reduceAdd, Nat.reduceSub, Nat.reduceMul, reduceCtorEq, reduceIte, e0, e1]))
    exact fin _ _ _ st st' rfl
  · rw [if_neg d0] at fin
    by_cases d1 : kd = 1
    · rw [if_pos d1] at fin
      repeat' (first
      | (with_reducible first | refine q_nn ?_ | refine q_nr ?_ | refine q_ne ?_ | refine q_en ?_ | refine q_er ?_ | refine q_es ?_ | refine q_gn ?_ | refine q_gr ?_ | refine q_ge ?_ | refine c_seq ?_ | refine c_block ?_ | refine c_scope ?_ | refine c_skip ?_ | refine c_label ?_ | refine c_ret ?_ | refine c_exit ?_ | (refine hK _ _ ?_; clear hK K) | refine seg_nil ?_) | ((with_reducible refine q_eo ?_ ?_); exact rfl)
      | ((with_reducible first | refine c_reg fun K hK => ?_ | refine c_drw (by decide +kernel) fun K hK => ?_ | refine c_cond ?_ | refine seg_cons fun K hK => ?_ | show endW _ _ _ _ _ | refine ifb_dec (fun _ => ?_) (fun _ => ?_) | refine ifb_ieq (fun _ => ?_) (fun _ => ?_) | refine ifb_seq (fun _ => ?_) (fun _ => ?_)) <;> try simp (disch := first | (with_unfolding_all first | exact Lk.mk rfl | exact Seen.of rfl) | assumption | (fail_if_success with_reducible first | refine Seen.of ?_ | apply Sl.frame | apply Ow.frame); omega) only [go_sem, Int.reduceEq, Int.reduceLE, Int.reduceLT, Int.reduceNe, Int.reduceNeg, Int.reduceAdd, Int.reduceSub, Int.reduceMul, Int.reduceToNat, Nat.reduceLT, Nat.reduceLeDiff, Nat.reduceEqDiff, Nat.reduceAdd, Nat.reduceSub, Nat.reduceMul, reduceCtorEq, reduceIte, e0, e1, bx, d1]))
      refine callM_of (skipI Oc p s id x h1 hc htl) ?_
      rintro v h2 ⟨rfl, st⟩
      have b2 := bk h2 _ st
      refine vI ?_; repeat' (first
      | (with_reducible first | refine q_nn ?_ | refine q_nr ?_ | refine q_ne ?_ | refine q_en ?_ | refine q_er ?_ | refine q_es ?_ | refine q_gn ?_ | refine q_gr ?_ | refine q_ge ?_ | refine c_seq ?_ | refine c_block ?_ | refine c_scope ?_ | refine c_skip ?_ | refine c_label ?_ | refine c_ret ?_ | refine c_exit ?_ | (refine hK _ _ ?_; clear hK K) | refine seg_nil ?_) | ((with_reducible refine q_eo ?_ ?_); exact rfl)
      | ((with_reducible first | refine vO ?_ | refine c_reg fun K hK => ?_ | refine c_drw (by decide +kernel) fun K hK => ?_ | refine c_cond ?_ | refine seg_cons fun K hK => ?_ | show endW _ _ _ _ _ | refine ifb_dec (fun _ => ?_) (fun _ => ?_) | refine ifb_ieq (fun _ => ?_) (fun _ => ?_) | refine ifb_seq (fun _ => ?_) (fun _ => ?_)) <;> try simp (disch := first | (with_unfolding_all first | exact Lk.mk rfl | exact Seen.of rfl) | assumption | (fail_if_success with_reducible first | refine Seen.of ?_ | apply Sl.frame | apply Ow.frame); omega) only [go_sem, Int.reduceEq, Int.reduceLE, Int.reduceLT, Int.reduceNe, Int.reduceNeg, Int.reduceAdd, Int.reduceSub, Int.reduceMul, Int.reduceToNat, Nat.reduceLT, Nat.reduceLeDiff, Nat.reduceEqDiff, Nat.reduceAdd, Nat.reduceSub, Nat.reduceMul, reduceCtorEq, reduceIte, e0, e1, b2]))
      refine callM_of (rskip (O1 Or h1) q (rOf s) id x h2 (hr.skipC hd st) lc ld) ?_
      rintro v h3 ⟨hv, st'⟩
      have st' : StR (O1 Or h1) h2 h3 q (rOf (skipS s id x)) := by rw [← rOf_skip s id x htl]; exact st'
      obtain rfl : v = .int .i64 (skipE s id x) := hv
      refine vI ?_; repeat' (first
      | (with_reducible first | refine q_nn ?_ | refine q_nr ?_ | refine q_ne ?_ | refine q_en ?_ | refine q_er ?_ | refine q_es ?_ | refine q_gn ?_ | refine q_gr ?_ | refine q_ge ?_ | refine c_seq ?_ | refine c_block ?_ | refine c_scope ?_ | refine c_skip ?_ | refine c_label ?_ | refine c_ret ?_ | refine c_exit ?_ | (refine hK _ _ ?_; clear hK K) | refine seg_nil ?_) | ((with_reducible refine q_eo ?_ ?_); exact rfl)
      | ((with_reducible first | refine vO ?_ | refine c_reg fun K hK => ?_ | refine c_drw (by decide +kernel) fun K hK => ?_ | refine c_cond ?_ | refine seg_cons fun K hK => ?_ | show endW _ _ _ _ _ | refine ifb_dec (fun _ => ?_) (fun _ => ?_) | refine ifb_ieq (fun _ => ?_) (fun _ => ?_) | refine ifb_seq (fun _ => ?_) (fun _ => ?_)) <;> try simp (disch := first | (with_unfolding_all first | exact Lk.mk rfl | exact Seen.of rfl) | assumption | (fail_if_success with_reducible first | refine Seen.of ?_ | apply Sl.frame | apply Ow.frame); omega) only [go_sem, Int.reduceEq, Int.reduceLE, Int.reduceLT, Int.reduceNe, Int.reduceNeg, Int.reduceAdd, Int.reduceSub, Int.reduceMul, Int.reduceToNat, Nat.reduceLT, Nat.reduceLeDiff, Nat.reduceEqDiff, Nat.reduceAdd, Nat.reduceSub, Nat.reduceMul, reduceCtorEq, reduceIte, e0, e1]))
      exact fin _ _ _ st st' rfl
    · rw [if_neg d1] at fin
      by_cases d2 : kd = 2
      · rw [if_pos d2] at fin
        repeat' (first
      | (with_reducible first | refine q_nn ?_ | refine q_nr ?_ | refine q_ne ?_ | refine q_en ?_ | refine q_er ?_ | refine q_es ?_ | refine q_gn ?_ | refine q_gr ?_ | refine q_ge ?_ | refine c_seq ?_ | refine c_block ?_ | refine c_scope ?_ | refine c_skip ?_ | refine c_label ?_ | refine c_ret ?_ | refine c_exit ?_ | (refine hK _ _ ?_; clear hK K) | refine seg_nil ?_) | ((with_reducible refine q_eo ?_ ?_); exact rfl)
      | ((with_reducible first | refine c_reg fun K hK => ?_ | refine c_drw (by decide +kernel) fun K hK => ?_ | refine c_cond ?_ | refine seg_cons fun K hK => ?_ | show endW _ _ _ _ _ | refine ifb_dec (fun _ => ?_) (fun _ => ?_) | refine ifb_ieq (fun _ => ?_) (fun _ => ?_) | refine ifb_seq (fun _ => ?_) (fun _ => ?_)) <;> try simp (disch := first | (with_unfolding_all first | exact Lk.mk rfl | exact Seen.of rfl) | assumption | (fail_if_success with_reducible first | refine Seen.of ?_ | apply Sl.frame | apply Ow.frame); omega) only [go_sem, Int.reduceEq, Int.reduceLE, Int.reduceLT, Int.reduceNe, Int.reduceNeg, Int.reduceAdd, Int.reduceSub, Int.reduceMul, Int.reduceToNat, Nat.reduceLT, Nat.reduceLeDiff, Nat.reduceEqDiff, Nat.reduceAdd, Nat.reduceSub, Nat.reduceMul, reduceCtorEq, reduceIte, e0, e1, bx, d2]))
        refine callM_of (setI Oc p s id x h1 n hc ok (by omega)) ?_
        rintro v h2 ⟨rfl, st⟩
        have b2 := bk h2 _ st
        refine vI ?_; repeat' (first
      | (with_reducible first | refine q_nn ?_ | refine q_nr ?_ | refine q_ne ?_ | refine q_en ?_ | refine q_er ?_ | refine q_es ?_ | refine q_gn ?_ | refine q_gr ?_ | refine q_ge ?_ | refine c_seq ?_ | refine c_block ?_ | refine c_scope ?_ | refine c_skip ?_ | refine c_label ?_ | refine c_ret ?_ | refine c_exit ?_ | (refine hK _ _ ?_; clear hK K) | refine seg_nil ?_) | ((with_reducible refine q_eo ?_ ?_); exact rfl)
      | ((with_reducible first | refine vO ?_ | refine c_reg fun K hK => ?_ | refine c_drw (by decide +kernel) fun K hK => ?_ | refine c_cond ?_ | refine seg_cons fun K hK => ?_ | show endW _ _ _ _ _ | refine ifb_dec (fun _ => ?_) (fun _ => ?_) | refine ifb_ieq (fun _ => ?_) (fun _ => ?_) | refine ifb_seq (fun _ => ?_) (fun _ => ?_)) <;> try simp (disch := first | (with_unfolding_all first | exact Lk.mk rfl | exact Seen.of rfl) | assumption | (fail_if_success with_reducible first | refine Seen.of ?_ | apply Sl.frame | apply Ow.frame); omega) only [go_sem, Int.reduceEq, Int.reduceLE, Int.reduceLT, Int.reduceNe, Int.reduceNeg, Int.reduceAdd, Int.reduceSub, Int.reduceMul, Int.reduceToNat, Nat.reduceLT, Nat.reduceLeDiff, Nat.reduceEqDiff, Nat.reduceAdd, Nat.reduceSub, Nat.reduceMul, reduceCtorEq, reduceIte, e0, e1, b2]))
        refine callM_of (rset (O1 Or h1) q (rOf s) id x h2 (hr.skipC hd st) la lb) ?_
        rintro v h3 ⟨hv, st'⟩
        have st' : StR (O1 Or h1) h2 h3 q (rOf (setS s id x)) := by rw [← rOf_set s id x]; exact st'
        obtain rfl : v = .int .i64 (setE s id) := by
          have e : idx (rOf s).a id = fpos s.l id := idx_map
          rw [hv, e]; rfl
        refine vI ?_; repeat' (first
      | (with_reducible first | refine q_nn ?_ | refine q_nr ?_ | refine q_ne ?_ | refine q_en ?_ | refine q_er ?_ | refine q_es ?_ | refine q_gn ?_ | refine q_gr ?_ | refine q_ge ?_ | refine c_seq ?_ | refine c_block ?_ | refine c_scope ?_ | refine c_skip ?_ | refine c_label ?_ | refine c_ret ?_ | refine c_exit ?_ | (refine hK _ _ ?_; clear hK K) | refine seg_nil ?_) | ((with_reducible refine q_eo ?_ ?_); exact rfl)
      | ((with_reducible first | refine vO ?_ | refine c_reg fun K hK => ?_ | refine c_drw (by decide +kernel) fun K hK => ?_ | refine c_cond ?_ | refine seg_cons fun K hK => ?_ | show endW _ _ _ _ _ | refine ifb_dec (fun _ => ?_) (fun _ => ?_) | refine ifb_ieq (fun _ => ?_) (fun _ => ?_) | refine ifb_seq (fun _ => ?_) (fun _ => ?_)) <;> try simp (disch := first | (with_unfolding_all first | exact Lk.mk rfl | exact Seen.of rfl) | assumption | (fail_if_success with_reducible first | refine Seen.of ?_ | apply Sl.frame | apply Ow.frame); omega) only [go_sem, Int.reduceEq, Int.reduceLE, Int.reduceLT, Int.reduceNe, Int.reduceNeg, Int.reduceAdd, Int.reduceSub, Int.reduceMul, Int.reduceToNat, Nat.reduceLT, Nat.reduceLeDiff, Nat.reduceEqDiff, Nat.reduceAdd, Nat.reduceSub, Nat.reduceMul, reduceCtorEq, reduceIte, e0, e1]))
        exact fin _ _ _ st st' rfl
      · rw [if_neg d2] at fin
        by_cases d3 : kd = 3
        · rw [if_pos d3] at fin
          repeat' (first
      | (with_reducible first | refine q_nn ?_ | refine q_nr ?_ | refine q_ne ?_ | refine q_en ?_ | refine q_er ?_ | refine q_es ?_ | refine q_gn ?_ | refine q_gr ?_ | refine q_ge ?_ | refine c_seq ?_ | refine c_block ?_ | refine c_scope ?_ | refine c_skip ?_ | refine c_label ?_ | refine c_ret ?_ | refine c_exit ?_ | (refine hK _ _ ?_; clear hK K) | refine seg_nil ?_) | ((with_reducible refine q_eo ?_ ?_); exact rfl)
      | ((with_reducible first | refine c_reg fun K hK => ?_ | refine c_drw (by decide +kernel) fun K hK => ?_ | refine c_cond ?_ | refine seg_cons fun K hK => ?_ | show endW _ _ _ _ _ | refine ifb_dec (fun _ => ?_) (fun _ => ?_) | refine ifb_ieq (fun _ => ?_) (fun _ => ?_) | refine ifb_seq (fun _ => ?_) (fun _ => ?_)) <;> try simp (disch := first | (with_unfolding_all first | exact Lk.mk rfl | exact Seen.of rfl) | assumption | (fail_if_success with_reducible first | refine Seen.of ?_ | apply Sl.frame | apply Ow.frame); omega) only [go_sem, Int.reduceEq, Int.reduceLE, Int.reduceLT, Int.reduceNe, Int.reduceNeg, Int.reduceAdd, Int.reduceSub, Int.reduceMul, Int.reduceToNat, Nat.reduceLT, Nat.reduceLeDiff, Nat.reduceEqDiff, Nat.reduceAdd, Nat.reduceSub, Nat.reduceMul, reduceCtorEq, reduceIte, e0, e1, bx, d3]))
          refine callM_of (closeI Oc p s id x h1 n hc ok (by omega)) ?_
          rintro v h2 ⟨rfl, st⟩
          have b2 := bk h2 _ st
          refine vI ?_; repeat' (first
      | (with_reducible first | refine q_nn ?_ | refine q_nr ?_ | refine q_ne ?_ | refine q_en ?_ | refine q_er ?_ | refine q_es ?_ | refine q_gn ?_ | refine q_gr ?_ | refine q_ge ?_ | refine c_seq ?_ | refine c_block ?_ | refine c_scope ?_ | refine c_skip ?_ | refine c_label ?_ | refine c_ret ?_ | refine c_exit ?_ | (refine hK _ _ ?_; clear hK K) | refine seg_nil ?_) | ((with_reducible refine q_eo ?_ ?_); exact rfl)
      | ((with_reducible first | refine vO ?_ | refine c_reg fun K hK => ?_ | refine c_drw (by decide +kernel) fun K hK => ?_ | refine c_cond ?_ | refine seg_cons fun K hK => ?_ | show endW _ _ _ _ _ | refine ifb_dec (fun _ => ?_) (fun _ => ?_) | refine ifb_ieq (fun _ => ?_) (fun _ => ?_) | refine ifb_seq (fun _ => ?_) (fun _ => ?_)) <;> try simp (disch := first | (with_unfolding_all first | exact Lk.mk rfl | exact Seen.of rfl) | assumption | (fail_if_success with_reducible first | refine Seen.of ?_ | apply Sl.frame | apply Ow.frame); omega) only [go_sem, Int.reduceEq, Int.reduceLE, Int.reduceLT, Int.reduceNe, Int.reduceNeg, Int.reduceAdd, Int.reduceSub, Int.reduceMul, Int.reduceToNat, Nat.reduceLT, Nat.reduceLeDiff, Nat.reduceEqDiff, Nat.reduceAdd, Nat.reduceSub, Nat.reduceMul, reduceCtorEq, reduceIte, e0, e1, b2]))
          refine callM_of (rclose (O1 Or h1) q (rOf s) id x h2 (hr.skipC hd st) la lb lc ld) ?_
          rintro v h3 ⟨hv, st'⟩
          have st' : StR (O1 Or h1) h2 h3 q (rOf (closeS s id x)) := by rw [← rOf_close s id x htl]; exact st'
          obtain rfl : v = .int .i64 (closeE s id x) := by
            have e : idx (rOf s).a id = fpos s.l id := idx_map
            rw [hv, e]; rfl
          refine vI ?_; repeat' (first
      | (with_reducible first | refine q_nn ?_ | refine q_nr ?_ | refine q_ne ?_ | refine q_en ?_ | refine q_er ?_ | refine q_es ?_ | refine q_gn ?_ | refine q_gr ?_ | refine q_ge ?_ | refine c_seq ?_ | refine c_block ?_ | refine c_scope ?_ | refine c_skip ?_ | refine c_label ?_ | refine c_ret ?_ | refine c_exit ?_ | (refine hK _ _ ?_; clear hK K) | refine seg_nil ?_) | ((with_reducible refine q_eo ?_ ?_); exact rfl)
      | ((with_reducible first | refine vO ?_ | refine c_reg fun K hK => ?_ | refine c_drw (by decide +kernel) fun K hK => ?_ | refine c_cond ?_ | refine seg_cons fun K hK => ?_ | show endW _ _ _ _ _ | refine ifb_dec (fun _ => ?_) (fun _ => ?_) | refine ifb_ieq (fun _ => ?_) (fun _ => ?_) | refine ifb_seq (fun _ => ?_) (fun _ => ?_)) <;> try simp (disch := first | (with_unfolding_all first | exact Lk.mk rfl | exact Seen.of rfl) | assumption | (fail_if_success with_reducible first | refine Seen.of ?_ | apply Sl.frame | apply Ow.frame); omega) only [go_sem, Int.reduceEq, Int.reduceLE, Int.reduceLT, Int.reduceNe, Int.reduceNeg, Int.reduceAdd, Int.reduceSub, Int.reduceMul, Int.reduceToNat, Nat.reduceLT, Nat.reduceLeDiff, Nat.reduceEqDiff, Nat.reduceAdd, Nat.reduceSub, Nat.reduceMul, reduceCtorEq, reduceIte, e0, e1]))
          exact fin _ _ _ st st' rfl
        · rw [if_neg d3] at fin
          repeat' (first
      | (with_reducible first | refine q_nn ?_ | refine q_nr ?_ | refine q_ne ?_ | refine q_en ?_ | refine q_er ?_ | refine q_es ?_ | refine q_gn ?_ | refine q_gr ?_ | refine q_ge ?_ | refine c_seq ?_ | refine c_block ?_ | refine c_scope ?_ | refine c_skip ?_ | refine c_label ?_ | refine c_ret ?_ | refine c_exit ?_ | (refine hK _ _ ?_; clear hK K) | refine seg_nil ?_) | ((with_reducible refine q_eo ?_ ?_); exact rfl)
      | ((with_reducible first | refine c_reg fun K hK => ?_ | refine c_drw (by decide +kernel) fun K hK => ?_ | refine c_cond ?_ | refine seg_cons fun K hK => ?_ | show endW _ _ _ _ _ | refine ifb_dec (fun _ => ?_) (fun _ => ?_) | refine ifb_ieq (fun _ => ?_) (fun _ => ?_) | refine ifb_seq (fun _ => ?_) (fun _ => ?_)) <;> try simp (disch := first | (with_unfolding_all first | exact Lk.mk rfl | exact Seen.of rfl) | assumption | (fail_if_success with_reducible first | refine Seen.of ?_ | apply Sl.frame | apply Ow.frame); omega) only [go_sem, Int.reduceEq, Int.reduceLE, Int.reduceLT, Int.reduceNe, Int.reduceNeg, Int.reduceAdd, Int.reduceSub, Int.reduceMul, Int.reduceToNat, Nat.reduceLT, Nat.reduceLeDiff, Nat.reduceEqDiff, Nat.reduceAdd, Nat.reduceSub, Nat.reduceMul, reduceCtorEq, reduceIte, e0, e1, bx]))
          refine callM_of (turnI Oc p s id x h1 hc htl) ?_
          rintro v h2 ⟨rfl, st⟩
          have b2 := bk h2 _ st
          refine vI ?_; repeat' (first
      | (with_reducible first | refine q_nn ?_ | refine q_nr ?_ | refine q_ne ?_ | refine q_en ?_ | refine q_er ?_ | refine q_es ?_ | refine q_gn ?_ | refine q_gr ?_ | refine q_ge ?_ | refine c_seq ?_ | refine c_block ?_ | refine c_scope ?_ | refine c_skip ?_ | refine c_label ?_ | refine c_ret ?_ | refine c_exit ?_ | (refine hK _ _ ?_; clear hK K) | refine seg_nil ?_) | ((with_reducible refine q_eo ?_ ?_); exact rfl)
      | ((with_reducible first | refine vO ?_ | refine c_reg fun K hK => ?_ | refine c_drw (by decide +kernel) fun K hK => ?_ | refine c_cond ?_ | refine seg_cons fun K hK => ?_ | show endW _ _ _ _ _ | refine ifb_dec (fun _ => ?_) (fun _ => ?_) | refine ifb_ieq (fun _ => ?_) (fun _ => ?_) | refine ifb_seq (fun _ => ?_) (fun _ => ?_)) <;> try simp (disch := first | (with_unfolding_all first | exact Lk.mk rfl | exact Seen.of rfl) | assumption | (fail_if_success with_reducible first | refine Seen.of ?_ | apply Sl.frame | apply Ow.frame); omega) only [go_sem, Int.reduceEq, Int.reduceLE, Int.reduceLT, Int.reduceNe, Int.reduceNeg, Int.reduceAdd, Int.reduceSub, Int.reduceMul, Int.reduceToNat, Nat.reduceLT, Nat.reduceLeDiff, Nat.reduceEqDiff, Nat.reduceAdd, Nat.reduceSub, Nat.reduceMul, reduceCtorEq, reduceIte, e0, e1, b2]))
          refine callM_of (rturn (O1 Or h1) q (rOf s) id x h2 (hr.skipC hd st) (by omega) ld) ?_
          rintro v h3 ⟨hv, st'⟩
          have st' : StR (O1 Or h1) h2 h3 q (rOf (turnS s id x)) := by rw [← rOf_turn s id x]; exact st'
          obtain rfl : v = .int .i64 (turnE s id x) := by
            have e : idx (rOf s).c id = fpos s.t id := idx_map
            rw [hv, e]; rfl
          refine vI ?_; repeat' (first
      | (with_reducible first | refine q_nn ?_ | refine q_nr ?_ | refine q_ne ?_ | refine q_en ?_ | refine q_er ?_ | refine q_es ?_ | refine q_gn ?_ | refine q_gr ?_ | refine q_ge ?_ | refine c_seq ?_ | refine c_block ?_ | refine c_scope ?_ | refine c_skip ?_ | refine c_label ?_ | refine c_ret ?_ | refine c_exit ?_ | (refine hK _ _ ?_; clear hK K) | refine seg_nil ?_) | ((with_reducible refine q_eo ?_ ?_); exact rfl)
      | ((with_reducible first | refine vO ?_ | refine c_reg fun K hK => ?_ | refine c_drw (by decide +kernel) fun K hK => ?_ | refine c_cond ?_ | refine seg_cons fun K hK => ?_ | show endW _ _ _ _ _ | refine ifb_dec (fun _ => ?_) (fun _ => ?_) | refine ifb_ieq (fun _ => ?_) (fun _ => ?_) | refine ifb_seq (fun _ => ?_) (fun _ => ?_)) <;> try simp (disch := first | (with_unfolding_all first | exact Lk.mk rfl | exact Seen.of rfl) | assumption | (fail_if_success with_reducible first | refine Seen.of ?_ | apply Sl.frame | apply Ow.frame); omega) only [go_sem, Int.reduceEq, Int.reduceLE, Int.reduceLT, Int.reduceNe, Int.reduceNeg, Int.reduceAdd, Int.reduceSub, Int.reduceMul, Int.reduceToNat, Nat.reduceLT, Nat.reduceLeDiff, Nat.reduceEqDiff, Nat.reduceAdd, Nat.reduceSub, Nat.reduceMul, reduceCtorEq, reduceIte, e0, e1]))
          exact fin _ _ _ st st' rfl
end Go.Proofs.Ytedhjjjheafjeaa
