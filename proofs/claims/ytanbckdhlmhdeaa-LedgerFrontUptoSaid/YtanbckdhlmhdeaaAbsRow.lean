/- From the abstract machine's answer to a row: 'it returns true, and what came in reads as it did'. -/
import Derived.Test.YtanbckdhlmhdeaaAbsDraw
import Derived.Below
import Derived.Carry
import Derived.ChangeSame
import Derived.JoinedOf
import Derived.JoinedCond
set_option linter.unusedSimpArgs false
set_option linter.unusedVariables false
namespace Go.Abs
open Go.RowKit Go.ChangeShapes

/-! ### The type table, by reckoning -/
def ti1B (P : Program) (t : TypeId) (ti : TI) : Bool :=
  match P.info? t, P.underlying t with
  | some i, some d => decide (i.size = ti.size) && decide (i.bytes = ti.bytes) &&
    (match i.zero with
     | some z => (match AV.ofVals z.cells.toList with | some l => AV.sames l ti.zero | none => false)
     | none => false) &&
    ti.zero.all AV.one && (!ti.eqOk || (P.eqGuardType P.depth t == false && P.stoodInHeld t == false))
  | _, _ => false

def tiB (P : Program) (t : TypeId) (ti : TI) : Bool :=
  decide (ti.desc = .bad) || (ti1B P t ti && (match P.underlying t with | some d => decide (tdOf d = ti.desc) | none => false))
def tisB (P : Program) : Nat → List TI → Bool
  | _, [] => true
  | t, ti :: l => tiB P t ti && tisB P (t + 1) l
theorem tisB_get {P : Program} : ∀ {l : List TI} {b i : Nat} {ti : TI}, tisB P b l = true → l[i]? = some ti → tiB P (b + i) ti = true
  | [], b, i, ti, h, hi => by simp at hi
  | x :: l, b, 0, ti, h, hi => by
    simp only [tisB, Bool.and_eq_true] at h
    simp at hi; subst hi; exact h.1
  | x :: l, b, i + 1, ti, h, hi => by
    simp only [tisB, Bool.and_eq_true] at h
    have := tisB_get h.2 (by simpa using hi)
    rwa [Nat.add_assoc, Nat.add_comm 1 i] at this
theorem TOk_of {P : Program} {l : List TI} (h : tisB P 0 l = true) : TOk P (fun t => (l[t]?).getD default) := by
  intro t ht
  cases hl : l[t]? with
  | none => simp [hl] at ht; exact absurd rfl ht
  | some ti =>
    simp only [hl, Option.getD_some] at ht ⊢
    have := tisB_get h hl
    rw [Nat.zero_add] at this
    unfold tiB at this
    simp only [Bool.or_eq_true, decide_eq_true_eq, Bool.and_eq_true] at this
    rcases this with h1 | ⟨h1, h2⟩
    · exact absurd h1 ht
    · unfold ti1B at h1
      split at h1
      · rename_i i d hi hd
        rw [hd] at h2
        simp only [Bool.and_eq_true, decide_eq_true_eq] at h1 h2
        obtain ⟨⟨⟨⟨k1, k2⟩, k3⟩, k4⟩, k5⟩ := h1
        split at k3
        · rename_i z hz
          split at k3
          · rename_i lz hlz
            refine ⟨i, d, z, hi, hd, h2, k1, k2, hz, by rw [hlz, AV.sames_eq _ _ k3], k4, ?_⟩
            intro he
            simp [he] at k5
            exact k5
          · simp at k3
        · simp at k3
      · simp at h1
def fnsB (P : Program) : Bool := P.funcs.all fun fn => !(fn.name == "runtime.NumGoroutine")
theorem FOk_of {P : Program} (h : fnsB P = true) : FOk P := by
  intro f fn hf
  unfold fnsB at h
  rw [Array.all_eq_true_iff_forall_mem] at h
  have := h fn (Array.mem_of_getElem? hf)
  simpa using this

/-! ### A call -/
variable {P : Program} {T : Tys}
theorem WR_start (W : World) : WR W (fun _ => none) AH.empty W :=
  ⟨Below.refl _ _, fun i _ => ⟨rfl, rfl⟩, fun i o h => by simp [AH.get, AH.empty, Tr.get] at h, fun i j o o' p q h => by simp [AH.get, AH.empty, Tr.get] at h⟩
theorem calls_true (hM : P.follows .mixedOrders = true) (hT : TOk P T) (hF : FOk P) {n : Nat} {f : FuncId} {as : List AV} {h' : AH} {W : World} {args : Array Value}
    (hr : callA P T n f as AH.empty = some (.bool true, h')) (ha : VRs W (fun _ => none) as args.toList) :
    Calls P f args W fun e W' => e = .returned (.bool true) ∧ Below W.heap.size W W' := by
  have h := (abs_ok (w0 := W) hM hT hF n).call f as AH.empty _ h' hr (fun _ => none) W args.toList 0 (WR_start W) ha
  rw [Array.toArray_toList] at h
  refine (h.calls fun k => FW_room none k).mono ?_
  rintro e W' ⟨ρ', u, rfl, _, H, hv⟩
  cases hv
  exact ⟨rfl, H.below⟩

/-! ### The row's post -/
section post
variable {H : Type} {enc : TypeId × Value → H}
theorem trodAll_stays {W W' : World} {sp : Nat → Bool} (hl : laidOutB P = true) (hb : Below W.heap.size W W') : ∀ {ts : List TypeId} {vs : List Value} {ds : List (DataW H)} {ps : List MemPlace},
    (∀ t ∈ ts, P.readableRec t = true ∧ t < P.types.size) → DataW.TrodAll enc P W 0 (fun _ => true) true ts vs ds ps → (∀ p ∈ ps, p.block < W.heap.size) → (∀ p ∈ ps, sp p.block = true) →
    DataW.TrodAll enc P W' 0 sp true ts vs ds ps
  | [], vs, ds, ps, _, h, _, _ => by
    obtain ⟨rfl, rfl, rfl⟩ := trodAll_nil h
    exact trodAll_mk0
  | t :: ts, vs, ds, ps, hts, h, hlt, hsp => by
    obtain ⟨v, vs1, d, ds1, p, q, rfl, rfl, rfl, h1, h2⟩ := trodAll_cons h
    have ht := hts t List.mem_cons_self
    refine ⟨p, q, WideElems.Trod_stays hl ht.1 ht.2 h1 (fun x hx => hb.same (hlt x (List.mem_append_left _ hx))) (fun x hx => hsp x (List.mem_append_left _ hx)), ?_, rfl⟩
    exact trodAll_stays hl hb (fun u hu => hts u (List.mem_cons_of_mem _ hu)) h2 (fun x hx => hlt x (List.mem_append_right _ hx)) (fun x hx => hsp x (List.mem_append_right _ hx))
def parsB (P : Program) (ts : List TypeId) : Bool := ts.all fun t => P.readableRec t && decide (t < P.types.size)
theorem post_true {f : Func} {s : ChangeSpec} {apart fresh again : Bool} {W W' : World} {args : Array Value} {ds gs : List (DataW H)} {before : List MemPlace} {tb : TypeId} (hl : laidOutB P = true) (hp : parsB P f.params.toList = true)
    (hrt : f.resultTypes = #[tb]) (htb : P.underlying tb = some .bool) (hvs : s.vars = []) (hW : DataW.Whole enc P f.params.toList s.vars apart W args.toList ds gs before)
    (hs : s.fn H (ds ++ gs) = { results := [.lit (.bool true)], args := ds }) (hb : Below W.heap.size W W') : s.post enc P f apart fresh false again W args (.bool true) W' := by
  have hW0 := hW
  have hlt : ∀ p ∈ before, p.block < W.heap.size := fun p hp => hW.lt p hp
  obtain ⟨p, q, hA, hV, rfl, hz, hn⟩ := hW
  rw [hvs] at hV
  obtain ⟨rfl, rfl⟩ := trodVars_none hV
  rw [List.append_nil] at hs hlt hz hn
  have hts : ∀ t ∈ f.params.toList, P.readableRec t = true ∧ t < P.types.size := by
    intro t ht
    unfold parsB at hp
    rw [List.all_eq_true] at hp
    simpa using hp t ht
  have hargs : ∀ sp : Nat → Bool, (∀ x ∈ p, sp x.block = true) → DataW.TrodAll enc P W' 0 sp true f.params.toList args.toList ds p := fun sp hsp => trodAll_stays hl hb hts hA hlt hsp
  have hres : ∀ (b : Nat) (sp : Nat → Bool) (hd : Bool), DataW.TrodAll enc P W' b sp hd f.resultTypes.toList ((Value.bool true).resultList f.resultTypes.size) [.lit (.bool true)] [] := by
    intro b sp hd
    rw [hrt]
    exact ⟨[], [], shut_bool htb true, trodAll_mk0, rfl⟩
  have e : s.fn H (ds ++ []) = { results := [.lit (.bool true)], args := ds } := by rw [List.append_nil]; exact hs
  refine ⟨ds, [], p ++ [], [], p, [], hW0, ?_, ?_, ?_, ?_, fun _ => ⟨?_, [.lit (.bool true)] ++ ds, [], p, ?_, ?_⟩⟩
  · rw [e]; exact hres _ _ _
  · rw [e]; exact hargs _ fun x hx => by simpa using hlt x hx
  · rw [e, hvs]; exact rfl
  · exact hb.frame _
  · intro j t r h1 h2
    rw [hrt] at h1 h2
    match j, h1, h2 with
    | 0, h1, h2 =>
      simp [Value.resultList] at h1 h2
      subst h1; subst h2
      exact okWide_bool_mk htb true
  · refine ⟨[] ++ p, [], trodAll_append (hargs _ fun _ _ => rfl) (hres _ _ _), by rw [hvs]; exact rfl, by simp, ?_, hn⟩
    intro b off hm
    rw [hb.frozen (p := ⟨b, off, none⟩) (hlt _ hm)]
    exact hz b off hm
  · intro x hx _
    simpa using hx
end post
end Go.Abs
