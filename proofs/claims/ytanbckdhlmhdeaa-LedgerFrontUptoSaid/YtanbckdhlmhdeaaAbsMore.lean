/- Arguments that are structs. -/
import Derived.Test.YtanbckdhlmhdeaaAbsDel
import Derived.Test.YtanbckdhlmhdeaaAbsRead
set_option linter.unusedSimpArgs false
set_option linter.unusedVariables false
namespace Go.Abs
section more
variable {T : Tys}
/-- A field of one cell. -/
theorem dat_f1 {n t ft off : Nat} {b : Bool} {cs : List AV} {fs : List (Nat × Nat × Bool)} (ht : (T t).desc = .struct fs) (hd : Dat T (n + 1) t cs) (hm : (ft, off, b) ∈ fs) (hz : (T ft).size = 1) (ho : off < (T t).size) : ∃ v, cs[off]? = some v ∧ Dat T n ft [v] := by
  simp only [Dat, ht] at hd
  obtain ⟨hl, hf⟩ := hd
  have h1 := hf _ hm
  have hlt : off < cs.length := by omega
  refine ⟨cs[off], List.getElem?_eq_getElem hlt, ?_⟩
  have : (cs.drop off).take 1 = [cs[off]] := by rw [List.drop_eq_getElem_cons hlt]; rfl
  rw [← this, ← hz]; exact h1
theorem dat_len {n t : Nat} {cs : List AV} {fs : List (Nat × Nat × Bool)} (ht : (T t).desc = .struct fs) (hd : Dat T (n + 1) t cs) : cs.length = (T t).size := by
  simp only [Dat, ht] at hd
  exact hd.1
/-- A field of several cells. -/
theorem dat_fn {n t ft off : Nat} {b : Bool} {cs : List AV} {fs : List (Nat × Nat × Bool)} (ht : (T t).desc = .struct fs) (hd : Dat T (n + 1) t cs) (hm : (ft, off, b) ∈ fs) : Dat T n ft ((cs.drop off).take (T ft).size) := by
  simp only [Dat, ht] at hd
  exact hd.2 _ hm
theorem list_3 {α : Type} {l : List α} {a b c : α} (hl : l.length = 3) (h0 : l[0]? = some a) (h1 : l[1]? = some b) (h2 : l[2]? = some c) : l = [a, b, c] := by
  match l, hl with
  | [x, y, z], _ => simp at h0 h1 h2; simp [h0, h1, h2]
theorem list_4 {α : Type} {l : List α} {a b c d : α} (hl : l.length = 4) (h0 : l[0]? = some a) (h1 : l[1]? = some b) (h2 : l[2]? = some c) (h3 : l[3]? = some d) : l = [a, b, c, d] := by
  match l, hl with
  | [x, y, z, u], _ => simp at h0 h1 h2 h3; simp [h0, h1, h2, h3]
/-- Blocks that are not among S, and what lies there. -/
def Has (S : Nat → Prop) (h : AH) : List (Nat × AO) → Prop
  | [] => True
  | e :: r => (¬ S e.1 ∧ e.1 < h.size ∧ h.get e.1 = some e.2) ∧ Has S h r
theorem Has.stable {S S' : Nat → Prop} {h h' : AH} (hz : h.size ≤ h'.size) (hf : ∀ b, b < h.size → ¬ S b → h'.get b = h.get b) (hS : ∀ b, S' b → S b ∨ h.size ≤ b) : ∀ {L : List (Nat × AO)}, Has S h L → Has S' h' L
  | [], _ => trivial
  | e :: r, ⟨⟨q1, q2, q3⟩, q⟩ => by
    refine ⟨⟨fun hs => ?_, by omega, by rw [hf _ q2 q1]; exact q3⟩, Has.stable hz hf hS q⟩
    rcases hS _ hs with h1 | h1
    · exact q1 h1
    · omega
/-- A slice keeps its elements where its block stays. -/
theorem Ow.slf {α : Type} {E : Enc α} {h0 : AH} {j : Nat} {a : AV} {l : List α} (o : Ow E h0 j a l) {h h' : AH} (s : Sl E h j a l) (hf : j < h0.size → h'.get j = h.get j) (hz : h.size ≤ h'.size) : Sl E h' j a l := by
  by_cases hj : j < h0.size
  · exact s.frame (fun _ => hf hj) hz
  · cases o with
    | nil0 ex z => exact .nil0 ex z
    | blk n cap ex l junk _ hs => omega
/-- What follows, behind a name. -/
theorem codeW_hide {P : Program} {rd : Option Nat} {c : Code} {Q : Ex → St → Prop} {s : St} (hw : ∀ Q' : Ex → St → Prop, (∀ e s, Q e s → Q' e s) → codeW P T rd c Q' s) : codeW P T rd c Q s := hw Q fun _ _ h => h
/-- What a call shall end in, behind a name. -/
theorem callW_hide {P : Program} {f : FuncId} {args : List AV} {h : AH} {K : AV → AH → Prop} (hw : ∀ K' : AV → AH → Prop, (∀ v h, K v h → K' v h) → callW P T f args h K') : callW P T f args h K := hw K fun _ _ h => h
/-- The temporaries so far, behind a name. -/
theorem codeW_base {P : Program} {rd : Option Nat} {c : Code} {Q : Ex → St → Prop} {n : Nat} {e : List (Nat × AV)} {tr : Tr AV} {mk : List Nat} {h : AH} (hw : ∀ tr', (∀ j, Seen true → (Tm.mk n tr').get j = (Tm.mk n (trL e tr)).get j) → codeW P T rd c Q ⟨⟨n, trL [] tr'⟩, mk, h⟩) : codeW P T rd c Q ⟨⟨n, trL e tr⟩, mk, h⟩ := hw _ fun _ _ => rfl
/-- A fact that is kept out of reckoning. -/
structure Hid (p : Prop) : Prop where
  h : p
end more
section lm
variable {P : Program} {T : Tys} {rd : Option Nat} {Q : Ex → St → Prop}
/-- A loop whose body ranges over functions: the marks are the invariant's too. -/
theorem c_loopM {b : Code} {n : Nat} {tr : Tr AV} {mk : List Nat} {h : AH} (M : Nat) (I : Nat → Tm → List Nat → AH → Prop) (m : Nat) (hm : within (mask b) M = true) (h0 : I m ⟨n, tr⟩ mk h)
    (hb : ∀ m tr' mk' h', (∀ i, Seen (!(M.testBit i)) → (Tm.mk n tr').get i = (Tm.mk n tr).get i) → I m ⟨n, tr'⟩ mk' h' →
      codeW P T rd b (onNormal (fun s' => ∃ m', m' < m ∧ I m' s'.tm s'.marks s'.h) Q) ⟨⟨n, trL [] tr'⟩, mk', h'⟩) : codeW P T rd (.loop b) Q ⟨⟨n, tr⟩, mk, h⟩ := by
  have gen : ∀ m s, I m s.tm s.marks s.h → Off M ⟨n, tr⟩ s.tm → wp P T rd (.loop b) Q s := by
    intro m s hI hof
    refine wp_loop_inv (fun m s => I m s.tm s.marks s.h ∧ Off M ⟨n, tr⟩ s.tm) m ?_ ⟨hI, hof⟩
    rintro m ⟨⟨n', tr'⟩, mk', h'⟩ ⟨h1, h3⟩
    simp only at h1 h3
    have hn : n' = n := h3.1
    subst hn
    refine wp_mono (wp_off (codeW_sound (hb m tr' mk' h' (fun i hi => h3.2 i (by simpa using hi.eq)) h1))) ?_
    rintro e s ⟨hq, ho, hk⟩
    cases e with
    | normal =>
      obtain ⟨m', hlt, hI'⟩ := hq
      exact ⟨m', hlt, hI', h3.trans (ho.mono fun i hi => within_bit hm hi)⟩
    | _ => exact hq
  exact gen m ⟨⟨n, tr⟩, mk, h⟩ h0 (Off.refl _ _)
theorem takeMarks_ok : ∀ (l : List Nat) (h : AH), l.Nodup → (∀ b ∈ l, h.get b = some (.defs false)) → ∃ h', takeMarks h l = some h' ∧ ∀ b, b ∉ l → h'.get b = h.get b
  | [], h, _, _ => ⟨h, rfl, fun _ _ => rfl⟩
  | i :: r, h, hn, hf => by
    rw [List.nodup_cons] at hn
    obtain ⟨h', e1, e2⟩ := takeMarks_ok r (h.set i .dead) hn.2 fun b hb => by
      rw [AH.get_set, if_neg (fun e => hn.1 (by rw [← e]; exact hb))]
      exact hf b (List.mem_cons_of_mem _ hb)
    refine ⟨h', by rw [takeMarks_cons, hf i List.mem_cons_self, tkR_defs, e1], fun b hb => ?_⟩
    rw [List.mem_cons, not_or] at hb
    rw [e2 b hb.2, AH.get_set, if_neg hb.1]
end lm
/-! The walk looks at the branch that is taken, and at nothing that stays. -/
@[congr] theorem iteM_congr {P : Program} {T : Tys} {ops : Array Oper} {l : List Oper} {K : Tm → AH → Prop} {d : Option Nat} {tm : Tm} {h : AH} {c c' : Bool} {r : Option OpR} (e : c = c') : iteM P T ops l K d tm h c r = iteM P T ops l K d tm h c' r := by rw [e]
@[congr] theorem ansM_congr {P : Program} {T : Tys} {ops : Array Oper} {l : List Oper} {K : Tm → AH → Prop} {d : Option Nat} {tm : Tm} {h : AH} {r r' : Option OpR} (e : r = r') : ansM P T ops l K d tm h r = ansM P T ops l K d tm h r' := by rw [e]
@[congr] theorem putM_congr {P : Program} {T : Tys} {ops : Array Oper} {l : List Oper} {K : Tm → AH → Prop} {d : Option Nat} {tm : Tm} {h h' : AH} {v v' : AV} (e : v = v') (e2 : h = h') : putM P T ops l K d tm v h = putM P T ops l K d tm v' h' := by rw [e, e2]
attribute [-go_sem] iteM_eq iteM_true iteM_false ifb_true ifb_false
attribute [go_sem low] iteM_eq
attribute [go_sem high] iteM_true iteM_false
attribute [go_sem ↓] ifb_true ifb_false
end Go.Abs
