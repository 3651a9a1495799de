/- A range over a function, and its rounds. -/
import Derived.Test.YtanbckdhlmhdeaaAbsNum
set_option linter.unusedSimpArgs false
set_option linter.unusedVariables false
namespace Go.Abs
section it
variable {P : Program} {T : Tys}
theorem opsW_mono {ops : Array Oper} {K K' : Tm → AH → Prop} (hk : ∀ tm h, K tm h → K' tm h) : ∀ {l : List Oper} {tm : Tm} {h : AH}, opsW P T ops l K tm h → opsW P T ops l K' tm h
  | [], tm, h, hw => hk _ _ hw
  | o :: l, tm, h, hw => by
    have put : ∀ {tm d v h}, putW tm d v (fun t => opsW P T ops l K t h) → putW tm d v (fun t => opsW P T ops l K' t h) := by
      rintro tm d v h ⟨t, h1, h2⟩
      exact ⟨t, h1, opsW_mono hk h2⟩
    unfold opsW at hw ⊢
    cases hwt : wantedA ops o tm with
    | false => rw [hwt, ifb_false] at hw; rw [ifb_false]; exact put hw
    | true =>
      rw [hwt, ifb_true] at hw; rw [ifb_true]
      unfold ansW at hw ⊢
      split at hw
      · exact put hw
      · obtain ⟨v, h', hc, h1⟩ := hw
        exact ⟨v, h', hc, put h1⟩
      · obtain ⟨v, h', hc, h1⟩ := hw
        exact ⟨v, h', hc, put h1⟩
      · exact hw.elim
theorem codeW_mono {rd : Option Nat} : ∀ {c : Code} {Q Q' : Ex → St → Prop} {s : St}, codeW P T rd c Q s → (∀ e s, Q e s → Q' e s) → codeW P T rd c Q' s := by
  intro c
  induction c with
  | skip => intro Q Q' s h k; exact k _ _ h
  | label l => intro Q Q' s h k; exact k _ _ h
  | ret => intro Q Q' s h k; exact k _ _ h
  | exit i => intro Q Q' s h k; exact k _ _ h
  | goto i => intro Q Q' s h k; exact k _ _ h
  | refuse w => intro Q Q' s h k; exact h.elim
  | seq a b iha ihb =>
    intro Q Q' s h k
    refine iha h ?_
    intro e s hq
    cases e with
    | normal => exact ihb hq k
    | _ => exact k _ _ hq
  | cond c a b iha ihb =>
    intro Q Q' s h k
    obtain ⟨t, ht, h⟩ := h
    refine ⟨t, ht, ?_⟩
    cases t
    · exact ihb h k
    · exact iha h k
  | block i b ih =>
    intro Q Q' s h k
    refine ih h ?_
    intro e s hq
    cases e with
    | exit j =>
      simp only [onExit] at hq ⊢
      split at hq
      · rename_i e; rw [if_pos e]; exact k _ _ hq
      · rename_i e; rw [if_neg e]; exact k _ _ hq
    | _ => exact k _ _ hq
  | scope b ih =>
    intro Q Q' s h k
    refine ih h ?_
    intro e s hq
    cases e with
    | goto j => exact hq.elim
    | _ => exact k _ _ hq
  | region id ops d =>
    intro Q Q' s h k
    rcases h with h | h
    · exact .inl ⟨h.1, opsW_mono (fun tm h hq => k _ _ hq) h.2⟩
    · exact .inr (wp_mono h k)
  | loop b ih => intro Q Q' s h k; exact wp_mono h k
  | rangeFunc f ps as b iha ihb => intro Q Q' s h k; exact wp_mono h k
/-- How a range ends, by its record. -/
def EndR (l : Nat) (tm : Tm) (mk : List Nat) (Q : Ex → St → Prop) (h2 : AH) : Prop :=
  ∃ st pend tmx psx asx bx, h2.get l = some (.loop st pend tmx psx asx bx) ∧ st ≠ .busy ∧ (match pend with
    | none => Q .normal ⟨tm, mk, h2.set l .dead⟩
    | some .ret => Q .ret ⟨tm, mk, h2.set l .dead⟩
    | some (.exit i) => Q (.exit i) ⟨tm, mk, h2.set l .dead⟩
    | some (.goto t) => Q (.goto t) ⟨tm, mk, h2.set l .dead⟩
    | _ => False)
theorem EndR_none {l : Nat} {tm tmx : Tm} {mk psx : List Nat} {Q : Ex → St → Prop} {h2 : AH} {st : LoopState} {asx bx : Code} (hl : h2.get l = some (.loop st none tmx psx asx bx)) (hs : st ≠ .busy) (hq : Q .normal ⟨tm, mk, h2.set l .dead⟩) : EndR l tm mk Q h2 := ⟨_, _, _, _, _, _, hl, hs, hq⟩
theorem EndR_jump {l : Nat} {tm tmx : Tm} {mk psx : List Nat} {Q : Ex → St → Prop} {h2 : AH} {st : LoopState} {asx bx : Code} {e : Ex} {c : Code} (hl : h2.get l = some (.loop st (some c) tmx psx asx bx)) (he : e.jump = some c) (hs : st ≠ .busy) (hq : Q e ⟨tm, mk, h2.set l .dead⟩) : EndR l tm mk Q h2 := by
  refine ⟨_, _, _, _, _, _, hl, hs, ?_⟩
  cases e <;> simp [Ex.jump] at he <;> subst he <;> exact hq
theorem c_range {f : Operand} {ps : Array Nat} {as b : Code} {tm : Tm} {mk : List Nat} {h : AH} {Q : Ex → St → Prop} {g : FuncId} {cap : List AV} (hf : ev tm.get f = some (.func g cap))
    (hc : callW P T g (.yield (h.size + 1) :: cap) ((h.push (.defs false)).push (.loop .ready none tm ps.toList as b)) fun _ h2 => EndR (h.size + 1) tm (h.size :: mk) Q h2) : codeW P T none (.rangeFunc f ps as b) Q ⟨tm, mk, h⟩ := by
  obtain ⟨v, h2, ⟨N, hN⟩, st, pend, tmx, psx, asx, bx, hl, hs, hq⟩ := hc
  have hsz : (h.push (.defs false)).size = h.size + 1 := rfl
  have key : ∃ e, Q e ⟨tm, h.size :: mk, h2.set (h.size + 1) .dead⟩ ∧ ∀ n, N ≤ n → runCode T (sysA P T n) none n (.rangeFunc f ps as b) ⟨tm, mk, h⟩ = some (e, ⟨tm, h.size :: mk, h2.set (h.size + 1) .dead⟩) := by
    cases pend with
    | none => exact ⟨.normal, hq, fun n hn => by simp only [runCode, hf, sysA, hsz, hN n hn, hl, if_neg hs]; rfl⟩
    | some c =>
      cases c with
      | ret => exact ⟨.ret, hq, fun n hn => by simp only [runCode, hf, sysA, hsz, hN n hn, hl, if_neg hs]; rfl⟩
      | exit i => exact ⟨.exit i, hq, fun n hn => by simp only [runCode, hf, sysA, hsz, hN n hn, hl, if_neg hs]; rfl⟩
      | goto i => exact ⟨.goto i, hq, fun n hn => by simp only [runCode, hf, sysA, hsz, hN n hn, hl, if_neg hs]; rfl⟩
      | _ => exact hq.elim
  obtain ⟨e, h1, h3⟩ := key
  exact ⟨e, _, ⟨N, h3⟩, h1⟩
/-- The same, the record behind a name. -/
theorem c_rangeR {f : Operand} {ps : Array Nat} {as b : Code} {tm : Tm} {mk : List Nat} {h : AH} {Q : Ex → St → Prop} {g : FuncId} {cap : List AV} (hf : ev tm.get f = some (.func g cap))
    (hc : ∀ R, R = AO.loop .ready none tm ps.toList as b → callW P T g (.yield (h.size + 1) :: cap) ((h.push (.defs false)).push R) fun _ h2 => EndR (h.size + 1) tm (h.size :: mk) Q h2) : codeW P T none (.rangeFunc f ps as b) Q ⟨tm, mk, h⟩ := c_range hf (hc _ rfl)
theorem y_round {l : Nat} {args : List AV} {h : AH} {tm tm1 : Tm} {ps : List Nat} {as b : Code} {K : AV → AH → Prop} (hl : h.get l = some (.loop .ready none tm ps as b)) (hs : setAll tm ps args = some tm1)
    (hw : codeW P T (some l) as (fun e s1 => e = .normal ∧ ∃ tmx psx asx bx, s1.h.get l = some (.loop .ready none tmx psx asx bx) ∧
      codeW P T (some l) b (fun e s2 => ∃ tmy psy asy bY, s2.h.get l = some (.loop .busy none tmy psy asy bY) ∧ K (.bool e.jump.isNone) (s2.h.set l (.loop (if e.jump.isNone then .ready else .done) e.jump tmy psy asy bY)))
        ⟨s1.tm, s1.marks, s1.h.set l (.loop .busy none tmx psx asx bx)⟩) ⟨tm1, [], h⟩) : yieldW P T l args h K := by
  obtain ⟨e, s1, ⟨N1, hN1⟩, rfl, tmx, psx, asx, bx, hl1, hb⟩ := codeW_sound hw
  obtain ⟨e2, s2, ⟨N2, hN2⟩, tmy, psy, asy, bY, hl2, hk⟩ := codeW_sound hb
  refine ⟨_, _, ⟨max N1 N2 + 1, fun n hn => ?_⟩, hk⟩
  cases n with
  | zero => omega
  | succ n =>
    have k1 := hN1 n (by omega)
    have k2 := hN2 n (by omega)
    unfold sysA at k1 k2
    simp only [yieldA, hl, hs, k1, hl1, k2, hl2]
/-- A record in another state. -/
def AO.busy : AO → AO
  | .loop _ _ t ps a b => .loop .busy none t ps a b
  | o => o
def AO.fin (e : Ex) : AO → AO
  | .loop _ _ t ps a b => .loop (if e.jump.isNone then .ready else .done) e.jump t ps a b
  | o => o
theorem AO.fin_normal {R : AO} {tm : Tm} {ps : List Nat} {as b : Code} (hR : R = .loop .ready none tm ps as b) : R.fin .normal = R := by subst hR; rfl
/-- A round, the heaps behind names. -/
theorem y_roundR {R : AO} {l : Nat} {args : List AV} {h : AH} {tm tm1 : Tm} {ps : List Nat} {as b : Code} {K : AV → AH → Prop} (hR : R = .loop .ready none tm ps as b) (hl : h.get l = some R) (hs : setAll tm ps args = some tm1)
    (hw : codeW P T (some l) as (fun e s1 => e = .normal ∧ s1.h.get l = some R ∧ ∀ hb, hb.size = s1.h.size → (∀ j, ¬ j = l → hb.get j = s1.h.get j) → hb.get l = some R.busy →
      codeW P T (some l) b (fun e s2 => s2.h.get l = some R.busy ∧ ∀ h2, h2.size = s2.h.size → (∀ j, ¬ j = l → h2.get j = s2.h.get j) → h2.get l = some (R.fin e) → K (.bool e.jump.isNone) h2) ⟨s1.tm, s1.marks, hb⟩) ⟨tm1, [], h⟩) : yieldW P T l args h K := by
  subst hR
  refine y_round hl hs (codeW_mono hw ?_)
  rintro e s1 ⟨rfl, h1, h2⟩
  refine ⟨rfl, _, _, _, _, h1, codeW_mono (h2 _ rfl (fun j hj => by rw [AH.get_set, if_neg hj]) (by rw [AH.get_set, if_pos rfl]; rfl)) ?_⟩
  rintro e s2 ⟨k1, k2⟩
  exact ⟨_, _, _, _, k1, k2 _ rfl (fun j hj => by rw [AH.get_set, if_neg hj]) (by rw [AH.get_set, if_pos rfl]; rfl)⟩
theorem yieldM_of {f : Nat} {args : List AV} {h : AH} {ops : Array Oper} {l : List Oper} {K : Tm → AH → Prop} {d : Option Nat} {tm : Tm} {R : AV → AH → Prop} (hc : yieldW P T f args h R) (hk : ∀ v h', R v h' → putM P T ops l K d tm v h') : yieldM P T f args h ops l K d tm := by
  obtain ⟨v, h', hc, h1⟩ := hc
  exact ⟨v, h', hc, hk _ _ h1⟩
theorem yieldW_mono {l : Nat} {args : List AV} {h : AH} {K K' : AV → AH → Prop} (hc : yieldW P T l args h K) (hk : ∀ v h', K v h' → K' v h') : yieldW P T l args h K' := by
  obtain ⟨v, h', hc, h1⟩ := hc
  exact ⟨v, h', hc, hk _ _ h1⟩
theorem setAll_one {n p : Nat} {e : List (Nat × AV)} {tr : Tr AV} {v : AV} (h : Seen (Nat.blt p n)) : setAll ⟨n, trL e tr⟩ [p] [v] = some ⟨n, trL ((p, v) :: e) tr⟩ := by
  have : p < n := by simpa [Nat.blt_eq] using h.eq
  simp only [setAll, if_pos this]; rfl
theorem setAll_two {n p q : Nat} {e : List (Nat × AV)} {tr : Tr AV} {v u : AV} (h : Seen (Nat.blt p n)) (h2 : Seen (Nat.blt q n)) : setAll ⟨n, trL e tr⟩ [p, q] [v, u] = some ⟨n, trL ((q, u) :: (p, v) :: e) tr⟩ := by
  have : p < n := by simpa [Nat.blt_eq] using h.eq
  have h2 : q < n := by simpa [Nat.blt_eq] using h2.eq
  have e2 : (Tm.set ⟨n, trL e tr⟩ p v).size = n := rfl
  simp only [setAll, if_pos this, e2, if_pos h2]; rfl
theorem setAll_nil {tm : Tm} : setAll tm [] [] = some tm := rfl
/-! The end of a call that ranged -/
def tkR (h : AH) (i : Nat) (r : List Nat) : Option AO → Option AH
  | some (.defs false) => takeMarks (h.set i .dead) r
  | _ => none
theorem takeMarks_nil {h : AH} : takeMarks h [] = some h := rfl
theorem takeMarks_cons {h : AH} {i : Nat} {r : List Nat} : takeMarks h (i :: r) = tkR h i r (h.get i) := by
  unfold tkR
  rw [takeMarks]
  cases h.get i with
  | none => rfl
  | some o => cases o <;> first | rfl | (rename_i b; cases b <;> rfl)
theorem tkR_defs {h : AH} {i : Nat} {r : List Nat} : tkR h i r (some (.defs false)) = takeMarks (h.set i .dead) r := rfl
def lvR (T : Tys) (rs : List ResultVar) (tm : Tm) : Option AH → Option (AV × AH)
  | some h => (resultsOf T tm h rs).map fun vs => (packed vs, h)
  | none => none
theorem leave_mk {rs : List ResultVar} {tm : Tm} {mk : List Nat} {h : AH} : leave T rs ⟨tm, mk, h⟩ = lvR T rs tm (takeMarks h mk) := by
  unfold leave lvR
  simp only
  cases takeMarks h mk <;> rfl
theorem lvR_some {rs : List ResultVar} {tm : Tm} {h : AH} : lvR T rs tm (some h) = (resultsOf T tm h rs).map fun vs => (packed vs, h) := rfl
/-! Rows of blocks -/
def pushes : List (List AV) → AH → AH
  | [], h => h
  | c :: r, h => pushes r (h.push (.cells c))
theorem pushes_size : ∀ (l : List (List AV)) (h : AH), (pushes l h).size = h.size + l.length
  | [], h => rfl
  | c :: r, h => by rw [pushes, pushes_size r]; simp; omega
theorem pushes_old : ∀ (l : List (List AV)) (h : AH) (b : Nat), b < h.size → (pushes l h).get b = h.get b
  | [], h, b, _ => rfl
  | c :: r, h, b, hb => by rw [pushes, pushes_old r _ b (by simp; omega), AH.get_push, if_neg (by omega)]
theorem pushes_new : ∀ (l : List (List AV)) (h : AH) (j : Nat) (c : List AV), l[j]? = some c → (pushes l h).get (h.size + j) = some (.cells c)
  | [], h, j, c, hj => by simp at hj
  | x :: r, h, 0, c, hj => by
    simp at hj; subst hj
    rw [pushes, pushes_old r _ _ (by simp), AH.get_push, if_pos (by omega)]
  | x :: r, h, j + 1, c, hj => by
    have := pushes_new r (h.push (.cells x)) j c (by simpa using hj)
    rw [pushes, ← this, AH.size_push, Nat.add_assoc, Nat.add_comm 1 j]
/-- A call that runs without a look at what is there. -/
theorem callW_eval {n : Nat} {f : FuncId} {args : List AV} {h h' : AH} {v : AV} {K : AV → AH → Prop} (hr : callA P T n f args h = some (v, h')) (hk : K v h') : callW P T f args h K := ⟨v, h', callA_CallA hr, hk⟩
/-- The heap behind a name. -/
theorem c_hide {rd : Option Nat} {c : Code} {Q : Ex → St → Prop} {tm : Tm} {mk : List Nat} {h : AH} (hw : ∀ h', h' = h → codeW P T rd c Q ⟨tm, mk, h'⟩) : codeW P T rd c Q ⟨tm, mk, h⟩ := hw h rfl
theorem cM_hide {f : FuncId} {args : List AV} {h : AH} {ops : Array Oper} {l : List Oper} {K : Tm → AH → Prop} {d : Option Nat} {tm : Tm} (hw : ∀ h', h' = h → callM P T f args h' ops l K d tm) : callM P T f args h ops l K d tm := hw h rfl
theorem yM_hide {f : Nat} {args : List AV} {h : AH} {ops : Array Oper} {l : List Oper} {K : Tm → AH → Prop} {d : Option Nat} {tm : Tm} (hw : ∀ h', h' = h → yieldM P T f args h' ops l K d tm) : yieldM P T f args h ops l K d tm := hw h rfl
/-! Structs written out -/
def plA (T : Tys) (t i : Nat) : Option (Nat × Nat) := match (T t).desc with
  | .struct fs => (fs[i]?).map fun f => (f.2.1, (T f.1).size)
  | _ => none
theorem bld_eq {t : Nat} {l : List (Nat × AV)} (h : (match (T t).desc with | .struct fs => fs.all fun f => okT T f.1 | _ => false) = true) : bldR T t (some l) = (fillA (plA T t) (T t).zero l).map .agg := by
  split at h
  · rename_i fs hd
    unfold bldR
    have e : plA T t = fun i => (fs[i]?).map fun f => (f.2.1, (T f.1).size) := by funext i; simp [plA, hd]
    simp only [hd, h, Bool.not_true, Bool.false_eq_true, if_false, e]
  · simp at h
def fA (pl : Nat → Option (Nat × Nat)) (cells : List AV) (r : List (Nat × AV)) (cs : List AV) : Option (Nat × Nat) → Option (List AV)
  | some (off, size) => if cs.length = size ∧ off + size ≤ cells.length ∧ cs.all AV.one then fillA pl (over cells off cs) r else none
  | none => none
def fB (pl : Nat → Option (Nat × Nat)) (cells : List AV) (r : List (Nat × AV)) (cs : List AV) (off : Nat) (a b c : Bool) : Option (List AV) := match a, b, c with
  | true, true, true => fillA pl (over cells off cs) r
  | _, _, _ => none
theorem fillA_nil' {pl : Nat → Option (Nat × Nat)} {cells : List AV} : fillA pl cells [] = some cells := rfl
theorem fillA_cons' {pl : Nat → Option (Nat × Nat)} {cells : List AV} {r : List (Nat × AV)} {i : Nat} {v : AV} : fillA pl cells ((i, v) :: r) = fA pl cells r v.cells (pl i) := by
  simp only [fillA, fA]
  cases pl i with
  | none => rfl
  | some p => rfl
theorem fA_some {pl : Nat → Option (Nat × Nat)} {cells cs : List AV} {r : List (Nat × AV)} {off size : Nat} : fA pl cells r cs (some (off, size)) = fB pl cells r cs off (decide (cs.length = size)) (decide (off + size ≤ cells.length)) (cs.all AV.one) := by
  unfold fA fB
  dsimp only
  by_cases h1 : cs.length = size
  · by_cases h2 : off + size ≤ cells.length
    · cases h3 : cs.all AV.one
      · rw [if_neg (by simp)]; simp [h1, h2]
      · rw [if_pos ⟨h1, h2, rfl⟩, dec_t h1, dec_t h2]
    · rw [if_neg (fun h => h2 h.2.1), dec_f h2]; simp [h1]
  · rw [if_neg (fun h => h1 h.1), dec_f h1]
theorem fB_t {pl : Nat → Option (Nat × Nat)} {cells cs : List AV} {r : List (Nat × AV)} {off : Nat} : fB pl cells r cs off true true true = fillA pl (over cells off cs) r := rfl
theorem over_1 {cs : List AV} {o : Nat} {v : AV} (h : Seen (Nat.blt o cs.length)) : over cs o [v] = cs.set o v := by
  have : o < cs.length := by simpa [Nat.blt_eq] using h.eq
  unfold over
  rw [List.set_eq_take_append_cons_drop, if_pos this]
  simp
theorem over_n {cs : List AV} {o : Nat} {u v : AV} {r : List AV} : over cs o (u :: v :: r) = cs.take o ++ (u :: v :: r) ++ cs.drop (o + (u :: v :: r).length) := rfl
end it
attribute [go_sem] fillA_nil' fillA_cons' fA_some fB_t over_1 over_n List.take_succ_cons List.take_zero List.drop_succ_cons List.drop_zero List.take_nil List.drop_nil
attribute [go_sem] takeMarks_nil takeMarks_cons tkR_defs leave_mk lvR_some
end Go.Abs
