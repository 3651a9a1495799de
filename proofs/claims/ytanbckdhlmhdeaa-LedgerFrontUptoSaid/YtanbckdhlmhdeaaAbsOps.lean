/- Each operation of the abstract machine is the model's. First part: operations whose answer hangs on their operands alone. -/
import Derived.Test.YtanbckdhlmhdeaaAbsRun
import Derived.Laws.StructEq
set_option linter.unusedSimpArgs false
set_option linter.unusedVariables false
namespace Go.Abs
open Go.RowKit
section ops
variable {P : Program} {T : Tys} {w0 w : World} {ρ : Rho} {h h' : AH}

def Res (P : Program) (w0 : World) (ρ : Rho) (s : Sem Next) (w : World) (v : AV) (h' : AH) : Prop :=
  ∃ ρ' u w' nx, s.run P w = .ok nx w' ∧ (nx = .value u ∨ (nx = .skip ∧ u = undef)) ∧ Ext ρ ρ' ∧ WR w0 ρ' h' w' ∧ VR w0 ρ' v u
theorem Res.val {s : Sem Value} {v : AV} {u : Value} (hs : s.run P w = .ok u w) (H : WR w0 ρ h w) (hv : VR w0 ρ v u) : Res P w0 ρ (do pure (.value (← s))) w v h :=
  ⟨ρ, u, w, .value u, by simp [hs], .inl rfl, Ext.refl _, H, hv⟩

theorem toList_mk (l : List UInt8) : (⟨l.toArray⟩ : ByteArray).toList = l := by
  have key : ∀ (n i : Nat) (r : List UInt8), n = l.length - i → ByteArray.toList.loop ⟨l.toArray⟩ i r = r.reverse ++ l.drop i := by
    intro n
    induction n with
    | zero =>
      intro i r hn
      rw [ByteArray.toList.loop]
      have : ¬ i < (⟨l.toArray⟩ : ByteArray).size := by simp [ByteArray.size]; omega
      rw [if_neg this, List.drop_of_length_le (by omega), List.append_nil]
    | succ n ih =>
      intro i r hn
      rw [ByteArray.toList.loop]
      have hi : i < l.length := by omega
      have : i < (⟨l.toArray⟩ : ByteArray).size := by simpa [ByteArray.size] using hi
      rw [if_pos this, ih (i + 1) _ (by omega)]
      have e : (⟨l.toArray⟩ : ByteArray).get! i = l[i] := by simp [ByteArray.get!, hi]
      rw [e, List.reverse_cons, List.append_assoc, List.singleton_append, List.getElem_cons_drop]
  have := key l.length 0 [] (by simp)
  simpa [ByteArray.toList] using this

theorem intBin_run {op : BinOp} {k k' : IntKind} {a b : Int} {z : AV} {t : TypeId} {xo yo : Operand} (hk : k = k' ∨ op = .shl ∨ op = .shr) (hr : intBin op k a b = some z) :
    ∃ r, (do eqGuard op t xo yo (.int k a) (.int k' b); binOp op t (.int k a) (.int k' b) : Sem Value).run P w = .ok r w ∧ VR w0 ρ z r := by
  have hg : (eqGuard op t xo yo (.int k a) (.int k' b)).run P w = .ok () w := by
    cases op <;> simp [eqGuard]
  simp only [Sem.run_bind, hg, Result.andThen_ok]
  cases op <;> simp only [intBin] at hr
  case shl => split at hr <;> simp at hr; subst hr; rename_i hn; exact ⟨_, by simp [binOp, Op.shift, hn], .int _ _⟩
  case shr => split at hr <;> simp at hr; subst hr; rename_i hn; exact ⟨_, by simp [binOp, Op.shift, hn], .int _ _⟩
  all_goals (obtain rfl : k = k' := by simpa using hk)
  case quo => split at hr <;> simp at hr; subst hr; rename_i hn; exact ⟨_, by simp [binOp, Op.intDiv, hn], .int _ _⟩
  case rem => split at hr <;> simp at hr; subst hr; rename_i hn; exact ⟨_, by simp [binOp, Op.intDiv, hn], .int _ _⟩
  all_goals (simp only [Option.some.injEq] at hr; subst hr)
  all_goals first
    | exact ⟨_, by simp [binOp, Op.intArith, Op.intBits, Op.intCmp], .int _ _⟩
    | exact ⟨_, by simp [binOp, Op.intArith, Op.intBits, Op.intCmp], .bool _⟩

theorem strBin_run {op : BinOp} {a b : List UInt8} {z : AV} {t : TypeId} {xo yo : Operand} (hr : strBin op a b = some z) :
    ∃ r, (do eqGuard op t xo yo (.string ⟨a.toArray⟩) (.string ⟨b.toArray⟩); binOp op t (.string ⟨a.toArray⟩) (.string ⟨b.toArray⟩) : Sem Value).run P w = .ok r w ∧ VR w0 ρ z r := by
  have hg : (eqGuard op t xo yo (.string ⟨a.toArray⟩) (.string ⟨b.toArray⟩)).run P w = .ok () w := by
    cases op <;> simp [eqGuard]
  simp only [Sem.run_bind, hg, Result.andThen_ok]
  cases op <;> simp only [strBin] at hr <;> first | (simp at hr; done) | skip
  case add =>
    split at hr
    · simp at hr
    · rename_i hn
      simp only [Option.some.injEq] at hr; subst hr
      have e : IntKind.max .i64 = 9223372036854775807 := by decide
      refine ⟨.string ⟨(a ++ b).toArray⟩, ?_, .str _⟩
      have hs : ¬ (((⟨a.toArray⟩ : ByteArray).size + (⟨b.toArray⟩ : ByteArray).size : Nat) : Int) > IntKind.max .i64 := by rw [e]; simpa [ByteArray.size] using hn
      have hb : (⟨a.toArray⟩ : ByteArray) ++ ⟨b.toArray⟩ = ⟨(a ++ b).toArray⟩ := by
        apply ByteArray.ext; simp [ByteArray.data_append]
      simp only [binOp, Op.stringOp, if_neg hs, hb, Sem.run_pure]
  all_goals (simp only [Option.some.injEq] at hr; subst hr; exact ⟨_, by simp [binOp, Op.stringOp, toList_mk], .bool _⟩)

theorem TOk.get (hT : TOk P T) {t : TypeId} (h : (T t).desc ≠ .bad) : ∃ i d z, P.info? t = some i ∧ P.underlying t = some d ∧ tdOf d = (T t).desc ∧ i.size = (T t).size ∧ i.bytes = (T t).bytes ∧ i.zero = some z ∧
    AV.ofVals z.cells.toList = some (T t).zero ∧ (T t).zero.all AV.one = true ∧ ((T t).eqOk = true → P.eqGuardType P.depth t = false ∧ P.stoodInHeld t = false) := hT t h
theorem tdOf_int {d : TypeDesc} {k : IntKind} (h : tdOf d = .int k) : d = .int k := by cases d <;> simp [tdOf] at h; rw [h]
theorem tdOf_bool {d : TypeDesc} (h : tdOf d = .bool) : d = .bool := by cases d <;> simp [tdOf] at h; rfl
theorem tdOf_string {d : TypeDesc} (h : tdOf d = .string) : d = .string := by cases d <;> simp [tdOf] at h; rfl
theorem tdOf_pointer {d : TypeDesc} {e : Nat} (h : tdOf d = .pointer e) : d = .pointer e := by cases d <;> simp [tdOf] at h; rw [h]
theorem tdOf_slice {d : TypeDesc} {e : Nat} (h : tdOf d = .slice e) : d = .slice e := by cases d <;> simp [tdOf] at h; rw [h]
theorem tdOf_array {d : TypeDesc} {n e : Nat} (h : tdOf d = .array n e) : d = .array n e := by cases d <;> simp [tdOf] at h; rw [h.1, h.2]
theorem tdOf_func {d : TypeDesc} (h : tdOf d = .func) : ∃ a b c, d = .func a b c := by cases d <;> simp [tdOf] at h; exact ⟨_, _, _, rfl⟩
theorem tdOf_struct {d : TypeDesc} {fs : List (Nat × Nat × Bool)} (h : tdOf d = .struct fs) : ∃ f, d = .struct f ∧ fs = f.toList.map fun f => (f.type, f.offset, f.name != "_") := by
  cases d <;> simp [tdOf] at h; exact ⟨_, rfl, h.symm⟩

theorem eqCell_run {d : Nat} {t : TypeId} {x y : AV} {u v : Value} {b : Bool} (hT : TOk P T) (hr : eqCell (T t).desc x y = some b) (hx : VR w0 ρ x u) (hy : VR w0 ρ y v) :
    (Op.equalIn (d + 1) t u v).run P w = .ok b w := by
  have hbad : (T t).desc ≠ .bad := by intro e; simp [eqCell, e] at hr
  obtain ⟨i, D, z, _, hu, hd, _⟩ := hT.get hbad
  unfold eqCell at hr
  split at hr
  · rename_i k0 k a k' b' hdd
    split at hr
    · rename_i hk
      simp at hr
      cases hx; cases hy
      subst hk
      rw [← hr]
      exact run_equalIn_int (P := P) w d t k k0 a b' (by rw [hu, tdOf_int (hd.trans hdd)])
    · simp at hr
  · rename_i a b' hdd
    simp at hr
    cases hx; cases hy
    rw [← hr, run_equalIn_string (P := P) w d t _ _ (by rw [hu, tdOf_string (hd.trans hdd)]), toList_mk, toList_mk]
  · rename_i a b' hdd
    simp at hr
    cases hx; cases hy
    rw [← hr]
    exact run_equalIn_bool' (P := P) w d t a b' (by rw [hu, tdOf_bool (hd.trans hdd)])
  · simp at hr
theorem eqCell_plain {d : TD} {x y : AV} {b : Bool} (hr : eqCell d x y = some b) : d.isAgg = false ∧ d ≠ .bad := by
  unfold eqCell at hr
  split at hr <;> first | (simp at hr; done) | exact ⟨rfl, by simp⟩
theorem part_run (hT : TOk P T) {t : TypeId} {cs : List AV} {vs : List Value} {off : Nat} {x : AV} (hv : VRs w0 ρ cs vs) (h1 : (T t).desc.isAgg = false) (h2 : (T t).desc ≠ .bad) (hx : cs[off]? = some x) :
    ∃ u, (part t vs.toArray off).run P w = .ok u w ∧ VR w0 ρ x u := by
  obtain ⟨i, D, z, _, hu, hd, _⟩ := hT.get h2
  obtain ⟨u, hg, hvr⟩ := hv.get hx
  refine ⟨u, ?_, hvr⟩
  have := run_isAgg (P := P) (w := w) hu (by rw [hd]; exact h2)
  rw [hd, h1] at this
  simp [part, this, hg]
theorem eqFields_run {d : Nat} (hT : TOk P T) {xs ys : List AV} {us vs : List Value} (hx : VRs w0 ρ xs us) (hy : VRs w0 ρ ys vs) : ∀ (fs : List Field) {b : Bool}, eqFields T xs ys (fs.map fun f => (f.type, f.offset, f.name != "_")) = some b →
    (Op.eqFields (d + 1) us.toArray vs.toArray fs).run P w = .ok b w := by
  intro fs
  induction fs with
  | nil => intro b hr; simp [eqFields] at hr; subst hr; simp [Op.eqFields]
  | cons f fs ih =>
    intro b hr
    simp only [List.map_cons, eqFields] at hr
    by_cases hn : f.name = "_"
    · rw [Op.eqFields, if_neg (by simpa using hn)]
      simp [hn] at hr
      exact ih hr
    · have hn' : (!(f.name != "_")) = false := by simpa using hn
      rw [hn'] at hr
      simp only [Bool.false_eq_true, if_false] at hr
      split at hr
      · rename_i x y hgx hgy
        split at hr
        · rename_i heq
          obtain ⟨p1, p2⟩ := eqCell_plain heq
          obtain ⟨u, hru, hvu⟩ := part_run (P := P) (w := w) hT hx p1 p2 hgx
          obtain ⟨v, hrv, hvv⟩ := part_run (P := P) (w := w) hT hy p1 p2 hgy
          rw [Op.eqFields, if_pos hn]
          simp only [Sem.run_bind, hru, hrv, Result.andThen_ok, eqCell_run (P := P) (w := w) hT heq hvu hvv]
          simpa using ih hr
        · rename_i heq
          simp at hr
          subst hr
          obtain ⟨p1, p2⟩ := eqCell_plain heq
          obtain ⟨u, hru, hvu⟩ := part_run (P := P) (w := w) hT hx p1 p2 hgx
          obtain ⟨v, hrv, hvv⟩ := part_run (P := P) (w := w) hT hy p1 p2 hgy
          rw [Op.eqFields, if_pos hn]
          simp only [Sem.run_bind, hru, hrv, Result.andThen_ok, eqCell_run (P := P) (w := w) hT heq hvu hvv]
          simp
        · simp at hr
      · simp at hr

theorem eqA_run {t : TypeId} {x y : AV} {u v : Value} {b : Bool} (hT : TOk P T) (hr : eqA (T t).desc x y = some b) (hx : VR w0 ρ x u) (hy : VR w0 ρ y v) : (Op.equal t u v).run P w = .ok b w := by
  have hbad : (T t).desc ≠ .bad := by intro e; simp [eqA, e] at hr
  obtain ⟨i, D, z, _, hu, hd, _⟩ := hT.get hbad
  unfold Op.equal
  rw [show Op.maxDepth = 9999 + 1 from rfl]
  generalize 9999 = dp
  unfold Op.equalIn
  rw [Sem.run_bind, run_und hu, Result.andThen_ok]
  unfold eqA at hr
  split at hr <;> rename_i hdd <;> simp only [Option.some.injEq, reduceCtorEq] at hr <;> subst hr
  · have e := tdOf_bool (hd.trans hdd); subst e; cases hx; cases hy; rfl
  · have e := tdOf_pointer (hd.trans hdd); subst e; cases hx; cases hy <;> rfl
  · have e := tdOf_pointer (hd.trans hdd); subst e; cases hx; cases hy <;> rfl
  · have e := tdOf_pointer (hd.trans hdd); subst e; cases hx; cases hy <;> rfl
  · have e := tdOf_pointer (hd.trans hdd); subst e; cases hx; cases hy <;> rfl
  · have e := tdOf_slice (hd.trans hdd); subst e; cases hx; cases hy <;> rfl
  · have e := tdOf_slice (hd.trans hdd); subst e; cases hx; cases hy <;> rfl
  · have e := tdOf_slice (hd.trans hdd); subst e; cases hx <;> cases hy <;> rfl
  · have e := tdOf_slice (hd.trans hdd); subst e; cases hx <;> cases hy <;> rfl
  · obtain ⟨_, _, _, e⟩ := tdOf_func (hd.trans hdd); subst e; cases hx; cases hy; rfl
  · obtain ⟨_, _, _, e⟩ := tdOf_func (hd.trans hdd); subst e; cases hx; cases hy; rfl
  · obtain ⟨_, _, _, e⟩ := tdOf_func (hd.trans hdd); subst e; cases hx; cases hy; rfl
  · obtain ⟨_, _, _, e⟩ := tdOf_func (hd.trans hdd); subst e; cases hx; cases hy; rfl
  · obtain ⟨_, _, _, e⟩ := tdOf_func (hd.trans hdd); subst e; cases hx; cases hy; rfl
/-- What is looked at besides, ahead of an '==': nothing, at the values that this machine knows. -/
theorem eqGuard_run {op : BinOp} {t : TypeId} {xo yo : Operand} {x y : AV} {u v : Value} (hx : VR w0 ρ x u) (hy : VR w0 ρ y v) (hg : (∀ cs, x ≠ .agg cs) ∨ P.eqGuardType P.depth t = false) :
    (eqGuard op t xo yo u v).run P w = .ok () w := by
  cases hx <;> cases hy <;> first
    | (cases op <;> simp [eqGuard]; done)
    | (have hg' := hg.resolve_left (fun k => k _ rfl)
       cases op <;> simp [eqGuard, hg'])
theorem eqA_noAgg {d : TD} {x y : AV} {b : Bool} (hr : eqA d x y = some b) : ∀ cs, x ≠ .agg cs := by
  intro cs e
  subst e
  simp [eqA] at hr
theorem binA_run {op : BinOp} {t : TypeId} {xo yo : Operand} {x y z : AV} {u v : Value} (hT : TOk P T) (hr : binA T op t x y = some z) (hx : VR w0 ρ x u) (hy : VR w0 ρ y v) :
    ∃ r, (do eqGuard op t xo yo u v; binOp op t u v : Sem Value).run P w = .ok r w ∧ VR w0 ρ z r := by
  unfold binA at hr
  split at hr
  · rename_i k a k' b
    split at hr
    · rename_i hk; cases hx; cases hy; exact intBin_run hk hr
    · simp at hr
  · cases hx; cases hy; exact strBin_run hr
  · rename_i xs ys
    split at hr
    · rename_i fs hdd
      split at hr
      · simp at hr
      · rename_i heq
        have hok : (T t).eqOk = true := by simpa using heq
        have hbad : (T t).desc ≠ .bad := by rw [hdd]; simp
        obtain ⟨i, D, z', _, hu, hd, _, _, _, _, _, he⟩ := hT.get hbad
        obtain ⟨f, hD, hfs⟩ := tdOf_struct (hd.trans hdd)
        obtain ⟨g1, g2⟩ := he hok
        have hg := eqGuard_run (P := P) (w := w) (op := op) (xo := xo) (yo := yo) hx hy (.inr g1)
        simp only [Sem.run_bind, hg, Result.andThen_ok]
        cases hx with
        | agg _ us hus =>
        cases hy with
        | agg _ vs hvs =>
        have key : ∀ b, eqFields T xs ys fs = some b → (Op.equal t (.agg us.toArray) (.agg vs.toArray)).run P w = .ok b w := by
          intro b hb
          have hf : P.fieldsOf t = f := by simp [Program.fieldsOf, hu, hD]
          unfold Op.equal
          rw [show Op.maxDepth = 9999 + 1 from rfl, run_equalIn_struct (P := P) w 9999 t _ _ (by rw [hf, hu, hD]) g2, hf]
          rw [hfs] at hb
          exact eqFields_run (d := 9998) hT hus hvs f.toList hb
        cases op <;> simp only [reduceCtorEq] at hr
        · obtain ⟨b, hb, rfl⟩ := Option.map_eq_some_iff.1 hr; exact ⟨_, by simp [binOp, key b hb], .bool _⟩
        · obtain ⟨b, hb, rfl⟩ := Option.map_eq_some_iff.1 hr; exact ⟨_, by simp [binOp, key b hb], .bool _⟩
    · simp at hr
  · rename_i hni hns hna
    have key : ∀ b, eqA (T t).desc x y = some b → (eqGuard op t xo yo u v).run P w = .ok () w ∧ (Op.equal t u v).run P w = .ok b w := fun b hb =>
      ⟨eqGuard_run hx hy (.inl (eqA_noAgg hb)), eqA_run hT hb hx hy⟩
    split at hr
    · obtain ⟨b, hb, rfl⟩ := Option.map_eq_some_iff.1 hr
      obtain ⟨k1, k2⟩ := key b hb
      simp only [Sem.run_bind, k1, Result.andThen_ok]
      refine ⟨_, ?_, .bool _⟩
      have : binOp .eql t u v = (do pure (.bool (← Op.equal t u v))) := by
        cases hx <;> cases hy <;> first | rfl | exact absurd rfl (hni _ _ _ _ rfl) | exact absurd rfl (hns _ _ rfl) | (exfalso; exact hni _ _ _ _ rfl rfl) | (exfalso; exact hns _ _ rfl rfl)
      rw [this]
      simp [k2]
    · obtain ⟨b, hb, rfl⟩ := Option.map_eq_some_iff.1 hr
      obtain ⟨k1, k2⟩ := key b hb
      simp only [Sem.run_bind, k1, Result.andThen_ok]
      refine ⟨_, ?_, .bool _⟩
      have : binOp .neq t u v = (do pure (.bool (!(← Op.equal t u v)))) := by
        cases hx <;> cases hy <;> first | rfl | (exfalso; exact hni _ _ _ _ rfl rfl) | (exfalso; exact hns _ _ rfl rfl)
      rw [this]
      simp [k2]
    · simp at hr
theorem unA_run {op : UnOp} {x z : AV} {u : Value} (hr : unA op x = some z) (hx : VR w0 ρ x u) : ∃ r, (Op.unary op u).run P w = .ok r w ∧ VR w0 ρ z r := by
  unfold unA at hr
  split at hr <;> simp only [Option.some.injEq, reduceCtorEq] at hr <;> subst hr <;> cases hx
  · exact ⟨_, by simp [Op.unary], .bool _⟩
  · exact ⟨_, by simp [Op.unary, Op.intArith], .int _ _⟩
  · exact ⟨_, by simp [Op.unary, Op.intBits], .int _ _⟩
end ops
end Go.Abs
