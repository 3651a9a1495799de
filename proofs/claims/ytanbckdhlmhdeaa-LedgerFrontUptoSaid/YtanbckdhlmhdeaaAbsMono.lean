/- More fuel, the same answer. -/
import Derived.Test.YtanbckdhlmhdeaaAbsWalk
set_option linter.unusedSimpArgs false
set_option linter.unusedVariables false
namespace Go.Abs
section mono
variable {P : Program} {T : Tys} {S S' : Sys}
structure SysLe (S S' : Sys) : Prop where
  call : ∀ f args h r, S.call f args h = some r → S'.call f args h = some r
  yield : ∀ l args h r, S.yield l args h = some r → S'.yield l args h = some r
theorem stepOp_mono (hS : SysLe S S') {e : Env} {o : Oper} {h : AH} {r : AV × AH} (hr : stepOp T S e o h = some r) : stepOp T S' e o h = some r := by
  unfold stepOp at *
  split at hr
  · exact hr
  · exact hS.call _ _ _ _ hr
  · exact hS.yield _ _ _ _ hr
  · simp at hr
theorem regStep_mono (hS : SysLe S S') {ops : Array Oper} {i : Nat} {tm : Tm} {h : AH} {r : Tm × AH} (hr : regStep T S ops i tm h = some r) : regStep T S' ops i tm h = some r := by
  unfold regStep at *
  split at hr
  · simp at hr
  · split at hr
    · rename_i hw
      rw [if_pos hw]
      split at hr
      · simp at hr
      · rename_i v h' hst
        rw [stepOp_mono hS hst]
        exact hr
    · rename_i hw
      rw [if_neg hw]
      exact hr
theorem regRun_mono (hS : SysLe S S') {ops : Array Oper} : ∀ {l : List Nat} {tm : Tm} {h : AH} {r : Tm × AH}, regRun T S ops l tm h = some r → regRun T S' ops l tm h = some r
  | [], tm, h, r, hr => hr
  | i :: l, tm, h, r, hr => by
    simp only [regRun] at *
    split at hr
    · simp at hr
    · rename_i tm' h' hst
      rw [regStep_mono hS hst]
      exact regRun_mono hS hr
theorem regTrace_mono (hS : SysLe S S') {ops : Array Oper} : ∀ {l : List Nat} {tm : Tm} {h : AH} {r : List (Tm × AH)}, regTrace T S ops l tm h = some r → regTrace T S' ops l tm h = some r
  | [], tm, h, r, hr => hr
  | i :: l, tm, h, r, hr => by
    simp only [regTrace] at *
    split at hr
    · simp at hr
    · rename_i tm' h' hst
      rw [regStep_mono hS hst]
      obtain ⟨t, h1, h2⟩ := Option.map_eq_some_iff.1 hr
      simp only [regTrace_mono hS h1, Option.map_some, h2]
theorem regDraw_mono (hS : SysLe S S') {ops : Array Oper} {tm : Tm} {h : AH} {r : Tm × AH} (hr : regDraw T S ops tm h = some r) : regDraw T S' ops tm h = some r := by
  unfold regDraw at *
  split at hr
  · rename_i hd
    rw [if_pos hd]
    split at hr
    · simp at hr
    · rename_i tr htr
      rw [regTrace_mono hS htr]
      exact hr
  · simp at hr
theorem loopA_mono {B B' : St → Option (Ex × St)} (hB : ∀ s r, B s = some r → B' s = some r) : ∀ {n m : Nat}, n ≤ m → ∀ {s : St} {r : Ex × St}, loopA n B s = some r → loopA m B' s = some r
  | 0, m, _, s, r, hr => by simp [loopA] at hr
  | n + 1, 0, hle, s, r, hr => by omega
  | n + 1, m + 1, hle, s, r, hr => by
    simp only [loopA] at *
    cases hb : B s with
    | none => rw [hb] at hr; simp at hr
    | some p =>
      rw [hB s p hb]
      rw [hb] at hr
      obtain ⟨e, s'⟩ := p
      cases e with
      | normal => exact loopA_mono hB (by omega) hr
      | _ => exact hr
theorem runCode_mono (hS : SysLe S S') {n m : Nat} (hle : n ≤ m) (rd : Option Nat) : ∀ {c : Code} {s : St} {r : Ex × St}, runCode T S rd n c s = some r → runCode T S' rd m c s = some r := by
  intro c
  induction c with
  | skip => intro s r hr; exact hr
  | label l => intro s r hr; exact hr
  | ret => intro s r hr; exact hr
  | exit i => intro s r hr; exact hr
  | goto l => intro s r hr; exact hr
  | refuse w => intro s r hr; exact hr
  | seq a b iha ihb =>
    intro s r hr
    simp only [runCode] at *
    cases ha : runCode T S rd n a s with
    | none => rw [ha] at hr; simp at hr
    | some p =>
      rw [iha ha]
      rw [ha] at hr
      obtain ⟨e, s'⟩ := p
      cases e with
      | normal => exact ihb hr
      | _ => exact hr
  | cond c a b iha ihb =>
    intro s r hr
    simp only [runCode] at *
    split at hr
    · split at hr
      · rename_i h1; rw [if_pos h1]; exact iha hr
      · rename_i h1; rw [if_neg h1]; exact ihb hr
    · simp at hr
  | block i b ih =>
    intro s r hr
    simp only [runCode] at *
    cases hb : runCode T S rd n b s with
    | none => rw [hb] at hr; simp at hr
    | some p => rw [ih hb]; rw [hb] at hr; exact hr
  | scope b ih =>
    intro s r hr
    simp only [runCode] at *
    cases hb : runCode T S rd n b s with
    | none => rw [hb] at hr; simp at hr
    | some p => rw [ih hb]; rw [hb] at hr; exact hr
  | loop b ih =>
    intro s r hr
    simp only [runCode] at *
    exact loopA_mono (fun s r h => ih h) hle hr
  | region id ops d =>
    intro s r hr
    simp only [runCode] at *
    cases d with
    | true =>
      simp only [if_true] at *
      cases hb : regDraw T S ops s.tm s.h with
      | none => rw [hb] at hr; simp at hr
      | some p => rw [regDraw_mono hS hb]; rw [hb] at hr; exact hr
    | false =>
      simp only [Bool.false_eq_true, if_false] at *
      cases hb : regRun T S ops (List.range ops.size) s.tm s.h with
      | none => rw [hb] at hr; simp at hr
      | some p => rw [regRun_mono hS hb]; rw [hb] at hr; exact hr
  | rangeFunc f ps as b iha ihb =>
    intro s r hr
    simp only [runCode] at *
    split at hr
    · rename_i g cap hf
      split at hr
      · simp at hr
      · rename_i mk h0 hpre
        split at hr
        · simp at hr
        · rename_i v2 h2 hcall
          rw [hS.call _ _ _ _ hcall]
          exact hr
    · simp at hr
theorem sysA_le (P : Program) (T : Tys) : ∀ n, SysLe (sysA P T n) (sysA P T (n + 1)) := by
  intro n
  induction n with
  | zero => exact ⟨fun f args h r hr => by simp [sysA, callA] at hr, fun l args h r hr => by simp [sysA, yieldA] at hr⟩
  | succ n ih =>
    have hc : ∀ rd c s r, runCode T ⟨callA P T n, yieldA P T n⟩ rd n c s = some r → runCode T ⟨callA P T (n+1), yieldA P T (n+1)⟩ rd (n+1) c s = some r := fun rd c s r h => runCode_mono ih (Nat.le_succ n) rd h
    refine ⟨?_, ?_⟩
    · intro f args h r hr
      simp only [sysA] at *
      rw [callA] at hr ⊢
      split at hr
      · simp at hr
      · rename_i fn hfn
        split at hr
        · simp at hr
        · rename_i c hbd
          cases hrun : runCode T ⟨callA P T n, yieldA P T n⟩ none n c ⟨Tm.enter args fn.ntmps, [], h⟩ with
          | none => rw [hrun] at hr; simp at hr
          | some p =>
            simp only [hc _ _ _ _ hrun]
            rw [hrun] at hr
            exact hr
    · intro l args h r hr
      simp only [sysA] at *
      rw [yieldA] at hr ⊢
      split at hr
      · rename_i tm ps as bo hl
        split at hr
        · simp at hr
        · rename_i tm1 hset
          cases hrun : runCode T ⟨callA P T n, yieldA P T n⟩ (some l) n as ⟨tm1, [], h⟩ with
          | none => rw [hrun] at hr; simp at hr
          | some p =>
            simp only [hc _ _ _ _ hrun]
            rw [hrun] at hr
            obtain ⟨e, s1⟩ := p
            cases e with
            | normal =>
              dsimp only at hr ⊢
              split at hr
              · rename_i tmx psx asx box hl1
                cases hrun2 : runCode T ⟨callA P T n, yieldA P T n⟩ (some l) n bo { s1 with h := s1.h.set l (.loop .busy none tmx psx asx box) } with
                | none => rw [hrun2] at hr; simp at hr
                | some p2 =>
                  simp only [hc _ _ _ _ hrun2]
                  rw [hrun2] at hr
                  exact hr
              · simp at hr
            | _ => simp at hr
      · simp at hr
theorem callA_le {n m : Nat} (h : n ≤ m) {f : FuncId} {args : List AV} {hp : AH} {r : AV × AH} (hr : callA P T n f args hp = some r) : callA P T m f args hp = some r := by
  induction h with
  | refl => exact hr
  | step _ ih => exact (sysA_le P T _).call _ _ _ _ ih
theorem callA_CallA {n : Nat} {f : FuncId} {args : List AV} {hp h' : AH} {v : AV} (hr : callA P T n f args hp = some (v, h')) : CallA P T f args hp v h' := ⟨n, fun m hm => callA_le hm hr⟩
/-- A closed call that is seen to give true. -/
theorem callW_true {n : Nat} {f : FuncId} {hp : AH} {K : AV → AH → Prop} (hr : ((callA P T n f [] hp).map (·.1.same (.bool true))) = some true) (hk : ∀ h', K (.bool true) h') : callW P T f [] hp K := by
  cases hc : callA P T n f [] hp with
  | none => rw [hc] at hr; simp at hr
  | some r =>
    obtain ⟨v, h'⟩ := r
    rw [hc] at hr
    simp at hr
    have := AV.same_eq _ _ hr
    subst this
    exact ⟨_, h', callA_CallA hc, hk h'⟩
end mono
end Go.Abs
