/- What comes in, read: every plain argument (numbers, bools, texts, structs, slices, nested) is a value of the abstract machine. -/
import Derived.Test.YtanbckdhlmhdeaaAbsIter
import Derived.ChangeArms
import Derived.DataReads
set_option linter.unusedSimpArgs false
set_option linter.unusedVariables false
namespace Go.Abs
open Go.ChangeShapes Go.WideShapes
def laidB (T : Tys) : Nat → List (Nat × Nat × Bool) → Nat → Bool
  | o, [], s => o == s
  | o, f :: r, s => f.2.1 == o && laidB T (o + (T f.1).size) r s
def plainB (T : Tys) : Nat → Nat → Bool
  | 0, _ => false
  | n + 1, t => match (T t).desc with
    | .bool | .int _ | .string => true
    | .slice e => plainB T n e && Nat.blt 0 (T e).size
    | .struct fs => laidB T 0 fs (T t).size && fs.all fun f => plainB T n f.1
    | _ => false
/-- Cells that are data of a type. -/
def Dat (T : Tys) : Nat → Nat → List AV → Prop
  | 0, _, _ => False
  | n + 1, t, cs => match (T t).desc with
    | .bool => ∃ b, cs = [.bool b]
    | .int k => ∃ x, cs = [.int k x] ∧ (Lit.int k x).wf = true
    | .string => ∃ s, cs = [.str s] ∧ s.length ≤ maxLen
    | .slice e => cs = [.slice none 0 0 0 true] ∨ ∃ row len cap, cs = [.islice row 0 len cap (T e).size] ∧ len ≤ cap ∧ cap ≤ maxLen ∧ row.length = cap * (T e).size ∧ ∀ i, i < cap → Dat T n e ((row.drop (i * (T e).size)).take (T e).size)
    | .struct fs => cs.length = (T t).size ∧ ∀ f ∈ fs, Dat T n f.1 ((cs.drop f.2.1).take (T f.1).size)
    | _ => False
section read
variable {H : Type} {enc : TypeId × Value → H} {P : Program} {T : Tys} {W : World}
abbrev r0 : Rho := fun _ => none
theorem laid_le {T : Tys} : ∀ {fs : List (Nat × Nat × Bool)} {o s : Nat}, laidB T o fs s = true → o ≤ s
  | [], o, s, h => by simp [laidB] at h; omega
  | f :: r, o, s, h => by
    simp only [laidB, Bool.and_eq_true] at h
    have := laid_le h.2
    omega
theorem read_fields {n : Nat} {cs : List Value} : ∀ {fs : List (Nat × Nat × Bool)} {o : Nat}, laidB T o fs cs.length = true → (∀ f ∈ fs, ∃ as, VRs W r0 as ((cs.drop f.2.1).take (T f.1).size) ∧ Dat T n f.1 as) →
    ∃ as, VRs W r0 as (cs.drop o) ∧ ∀ f ∈ fs, o ≤ f.2.1 ∧ Dat T n f.1 ((as.drop (f.2.1 - o)).take (T f.1).size)
  | [], o, h, hf => by
    simp [laidB] at h
    refine ⟨[], ?_, by simp⟩
    rw [h, List.drop_length]; exact .nil
  | f :: r, o, h, hf => by
    simp only [laidB, Bool.and_eq_true, beq_iff_eq] at h
    obtain ⟨h1, h2⟩ := h
    obtain ⟨as2, k1, k2⟩ := read_fields h2 fun g hg => hf g (List.mem_cons_of_mem _ hg)
    obtain ⟨as1, j1, j2⟩ := hf f List.mem_cons_self
    have hle := laid_le h2
    have hl1 : as1.length = (T f.1).size := by rw [j1.length, List.length_take, List.length_drop]; omega
    refine ⟨as1 ++ as2, ?_, ?_⟩
    · have : cs.drop o = (cs.drop f.2.1).take (T f.1).size ++ cs.drop (o + (T f.1).size) := by
        rw [h1, ← List.drop_drop, List.take_append_drop]
      rw [this]
      exact j1.append k1
    · intro g hg
      rcases List.mem_cons.1 hg with rfl | hg
      · refine ⟨by omega, ?_⟩
        rw [show g.2.1 - o = 0 by omega, List.drop_zero, List.take_append_of_le_length (by omega), ← hl1, List.take_length]
        exact j2
      · obtain ⟨k3, k4⟩ := k2 g hg
        refine ⟨by omega, ?_⟩
        have e : g.2.1 - o = as1.length + (g.2.1 - (o + (T f.1).size)) := by omega
        rw [e, ← List.drop_drop, List.drop_left]
        exact k4
theorem read_elems {n sz b off e : Nat} (hz : sz = (T e).size) : ∀ (cap : Nat), (∀ i, i < cap → ∃ cs as, cs.length = sz ∧ (∀ j, j < sz → W.cell? ⟨b, off + (i * sz + j), none⟩ = cs[j]?) ∧ VRs W r0 as cs ∧ Dat T n e as) →
    ∃ row vs, VRs W r0 row vs ∧ row.length = cap * sz ∧ (∀ i, i < cap → Dat T n e ((row.drop (i * sz)).take sz)) ∧ ∀ j v, vs[j]? = some v → W.cell? ⟨b, off + j, none⟩ = some v
  | 0, _ => ⟨[], [], .nil, by simp, fun i hi => by omega, fun j v h => by simp at h⟩
  | cap + 1, h => by
    obtain ⟨row, vs, h1, h2, h3, h4⟩ := read_elems hz cap fun i hi => h i (by omega)
    obtain ⟨cs, as, k1, k2, k3, k4⟩ := h cap (by omega)
    have hvl : vs.length = cap * sz := by rw [← h1.length, h2]
    have hal : as.length = sz := by rw [k3.length, k1]
    refine ⟨row ++ as, vs ++ cs, h1.append k3, by rw [List.length_append, h2, hal, Nat.add_mul, Nat.one_mul], ?_, ?_⟩
    · intro i hi
      by_cases hc : i < cap
      · have e1 : (i + 1) * sz ≤ cap * sz := Nat.mul_le_mul_right _ hc
        rw [Nat.add_mul, Nat.one_mul] at e1
        rw [List.drop_append_of_le_length (by omega), List.take_append_of_le_length (by rw [List.length_drop]; omega)]
        exact h3 i hc
      · have : i = cap := by omega
        subst this
        rw [← h2, List.drop_left, ← hal, List.take_length]
        exact k4
    · intro j v hj
      by_cases hc : j < cap * sz
      · rw [List.getElem?_append_left (by omega)] at hj
        exact h4 j v hj
      · rw [List.getElem?_append_right (by omega), hvl] at hj
        have hlt := (List.getElem?_eq_some_iff.1 hj).1
        have := k2 (j - cap * sz) (by omega)
        rw [hj] at this
        rw [← this]
        congr 2
        omega
theorem read_trod (hT : TOk P T) : ∀ (n fuel t : Nat) (cs : List Value) (x : DataW H × List MemPlace), plainB T n t = true → DataW.trod enc P W 0 (fun _ => true) true fuel t cs = some x → ∃ as, VRs W r0 as cs ∧ Dat T n t as
  | 0, fuel, t, cs, x, hp, _ => by simp [plainB] at hp
  | n + 1, fuel, t, cs, x, hp, h => by
    have hnb : (T t).desc ≠ .bad := by intro hb; simp [plainB, hb] at hp
    obtain ⟨i, d, z, hi, hd, htd, hsz, _⟩ := hT t hnb
    simp only [plainB] at hp
    simp only [Dat]
    cases d with
    | bool =>
      rw [← htd]
      obtain ⟨b, rfl, _⟩ := DataW.trod_bool hd h
      exact ⟨[.bool b], .cons _ _ _ _ (.bool b) .nil, b, rfl⟩
    | int k =>
      rw [← htd]
      obtain ⟨y, rfl, _, hw⟩ := DataW.trod_int hd h
      exact ⟨[.int k y], .cons _ _ _ _ (.int k y) .nil, y, rfl, hw⟩
    | string =>
      rw [← htd]
      obtain ⟨s, rfl, _, hw⟩ := DataW.trod_string hd h
      obtain ⟨⟨l⟩⟩ := s
      exact ⟨[.str l], .cons _ _ _ _ (.str l) .nil, l, rfl, hw⟩
    | slice e =>
      rw [← htd] at hp ⊢
      simp only [tdOf, Bool.and_eq_true] at hp ⊢
      obtain ⟨hp1, hp2⟩ := hp
      have hpos : 0 < (T e).size := by simpa [Nat.blt_eq] using hp2
      have hce : P.cellsOf e = (T e).size := by
        have hnb2 : (T e).desc ≠ .bad := by
          intro hb
          cases n with
          | zero => simp [plainB] at hp1
          | succ n => simp [plainB, hb] at hp1
        obtain ⟨i2, _, _, hi2, _, _, hs2, _⟩ := hT e hnb2
        simp [Program.cellsOf, hi2, hs2]
      rcases DataW.trod_slice hd h with ⟨rfl, _⟩ | ⟨a, len, cap, elems, rest, m, _, rfl, _, hb, hl, hm, hlen, hel, hsp, _⟩
      · exact ⟨[.slice none 0 0 0 true], .cons _ _ _ _ (.slice0 _ _) .nil, .inl rfl⟩
      · obtain ⟨hrl, hr⟩ := hsp rfl
        have each : ∀ i, i < cap → ∃ cs, W.cells? 0 (a.add (i * (T e).size)) (T e).size = some cs ∧ ∃ y, DataW.trod enc P W 0 (fun _ => true) true m e cs = some y := by
          intro i hi
          rw [hce] at hel hr
          have key : ∃ y, (W.cells? 0 (a.add (i * (T e).size)) (T e).size).bind (DataW.trod enc P W 0 (fun _ => true) true m e) = some y := by
            by_cases hil : i < len
            · exact ⟨elems[i]'(by omega), by rw [hel i hil, List.getElem?_eq_getElem (by omega)]⟩
            · have := hr (i - len) (by omega)
              rw [show len + (i - len) = i by omega] at this
              exact ⟨rest[i - len]'(by omega), by rw [this, List.getElem?_eq_getElem (by omega)]⟩
          obtain ⟨y, hy⟩ := key
          obtain ⟨cs, h1, h2⟩ := Option.bind_eq_some_iff.1 hy
          exact ⟨cs, h1, y, h2⟩
        rcases Nat.eq_zero_or_pos cap with h0 | h0
        · subst h0
          have : len = 0 := by omega
          subst this
          exact ⟨[.islice [] 0 0 0 (T e).size], .cons _ _ _ _ (.isliceE _ _ _ _) .nil, .inr ⟨[], 0, 0, rfl, Nat.le_refl _, by omega, by simp, fun i hi => by omega⟩⟩
        · obtain ⟨b, off, spot⟩ := a
          have hspot : spot = none := by
            obtain ⟨cs, h1, _⟩ := each 0 h0
            obtain ⟨_, h2, h3⟩ := World.cells?_some h1
            have := h3 0 hpos
            rw [List.getElem?_eq_getElem (by omega)] at this
            simp only [Nat.zero_mul, Addr.add, if_true] at this
            unfold World.cell? at this
            split at this
            · split at this
              · simp at this
              · rename_i hs; simpa using hs
            · simp at this
          subst hspot
          obtain ⟨row, vs, k1, k2, k3, k4⟩ := read_elems (W := W) (T := T) (n := n) (b := b) (off := off) (e := e) rfl cap fun i hi => by
            obtain ⟨cs, h1, y, h2⟩ := each i hi
            obtain ⟨_, j1, j2⟩ := World.cells?_some h1
            obtain ⟨as, q1, q2⟩ := read_trod hT n m e cs y hp1 h2
            refine ⟨cs, as, j1, fun j hj => ?_, q1, q2⟩
            rw [← j2 j hj, add_plain, add_plain, Nat.add_assoc]
          exact ⟨[.islice row 0 len cap (T e).size], .cons _ _ _ _ (.islice row 0 len cap _ b off vs k1 k4 hl) .nil, .inr ⟨row, len, cap, rfl, hl, hm, k2, k3⟩⟩
    | struct fs =>
      rw [← htd] at hp ⊢
      simp only [tdOf, Bool.and_eq_true, List.all_eq_true] at hp ⊢
      obtain ⟨hp1, hp2⟩ := hp
      obtain ⟨xs, m, _, _, hcl, hxl, hf⟩ := DataW.trod_struct hd h
      have hct : P.cellsOf t = (T t).size := by simp [Program.cellsOf, hi, hsz]
      rw [hct] at hcl
      rw [← hcl] at hp1
      obtain ⟨as, k1, k2⟩ := read_fields (W := W) (n := n) hp1 fun f hfm => by
        obtain ⟨g, hg, rfl⟩ := List.mem_map.1 hfm
        obtain ⟨j, hj⟩ := List.getElem?_of_mem hg
        have hj' : fs[j]? = some g := by simpa using hj
        have := hf j g hj'
        have hlt : j < xs.length := by rw [hxl]; exact (Array.getElem?_eq_some_iff.1 hj').1
        rw [List.getElem?_eq_getElem hlt] at this
        have hpg := hp2 _ hfm
        have hcg : P.cellsOf g.type = (T g.type).size := by
          have hnb2 : (T g.type).desc ≠ .bad := by
            intro hb
            cases n with
            | zero => simp [plainB] at hpg
            | succ n => simp [plainB, hb] at hpg
          obtain ⟨i2, _, _, hi2, _, _, hs2, _⟩ := hT g.type hnb2
          simp [Program.cellsOf, hi2, hs2]
        rw [hcg] at this
        exact read_trod hT n m g.type _ _ hpg this
      refine ⟨as, by simpa using k1, ?_, fun f hfm => by simpa using (k2 f hfm).2⟩
      rw [← hcl, k1.length, List.length_drop]; rfl
    | _ => rw [← htd] at hp; simp [tdOf] at hp
/-- An argument. -/
theorem arg_read (hT : TOk P T) {n t : Nat} {v : Value} {d : DataW H} {ps : List MemPlace} {r : Reach} {b0 : Nat} (hp : plainB T n t = true) (hval : Value.okWide P W r b0 t v) (hd : DataW.Trod enc P W 0 (fun _ => true) true t v d ps) :
    ∃ a, VR W r0 a v ∧ Dat T n t a.cells ∧ ((T t).desc.isAgg = true → ∃ cs, a = .agg cs) ∧ ((T t).desc.isAgg = false → a.cells = [a]) := by
  obtain ⟨fuel, hf⟩ := hd
  obtain ⟨as, h1, h2⟩ := read_trod hT n fuel t _ _ hp hf
  have hnb : (T t).desc ≠ .bad := by
    intro hb
    cases n with
    | zero => simp [plainB] at hp
    | succ n => simp [plainB, hb] at hp
  obtain ⟨i, dd, z, hi, hd, htd, hsz, _⟩ := hT t hnb
  have leaf : v.cells.toList = [v] → (T t).desc.isAgg = false → (∀ a, VR W r0 a v → a.cells = [a]) → ∃ a, VR W r0 a v ∧ Dat T n t a.cells ∧ ((T t).desc.isAgg = true → ∃ cs, a = .agg cs) ∧ ((T t).desc.isAgg = false → a.cells = [a]) := by
    intro hv ha hc
    rw [hv] at h1
    cases h1 with
    | cons a _ l _ h hs =>
      cases hs
      have := hc a h
      exact ⟨a, h, by rw [this]; exact h2, fun e => by rw [ha] at e; simp at e, fun _ => this⟩
  cases dd with
  | bool => obtain ⟨b, rfl⟩ := okWide_bool hd hval; exact leaf rfl (by rw [← htd]; rfl) fun a h => by cases h; rfl
  | int k => obtain ⟨b, rfl⟩ := okWide_int hd hval; exact leaf rfl (by rw [← htd]; rfl) fun a h => by cases h; rfl
  | string => obtain ⟨b, rfl⟩ := okWide_string hd hval; exact leaf rfl (by rw [← htd]; rfl) fun a h => by cases h; rfl
  | slice e => obtain ⟨a, l, c, rfl⟩ := okWide_slice hd hval; exact leaf rfl (by rw [← htd]; rfl) fun a h => by cases h <;> rfl
  | struct fs =>
    obtain ⟨cs, rfl, _⟩ := okWide_struct hd hval
    refine ⟨.agg as, ?_, h2, fun _ => ⟨as, rfl⟩, fun e => by rw [← htd] at e; simp [tdOf, TD.isAgg] at e⟩
    have := VR.agg (w0 := W) (ρ := r0) as cs.toList h1
    simpa using this
  | _ =>
    cases n with
    | zero => simp [plainB] at hp
    | succ n => simp only [plainB, ← htd] at hp; simp [tdOf] at hp
/-- A slice that came in: its elements. -/
theorem dat_slice {α : Type} {E : Enc α} {Wf : α → Prop} {n t e : Nat} {h : AH} {i : Nat} {a : AV} (ht : (T t).desc = .slice e) (hE : ∀ c, Dat T n e c → ∃ x, c = E.f x ∧ Wf x) (hs : (T e).size = E.sz) (hd : Dat T (n + 1) t [a]) : ∃ l, Sl E h i a l ∧ (∀ x ∈ l, Wf x) ∧ l.length ≤ maxLen := by
  simp only [Dat, ht] at hd
  rcases hd with h1 | ⟨row, len, cap, h1, h2, h3, h4, h5⟩
  · simp at h1; subst h1
    exact ⟨[], .nil0 _ _, by simp, by simp⟩
  · simp at h1; subst h1
    rw [hs] at h4 h5 ⊢
    have gen : ∀ m, m ≤ cap → ∃ l : List α, l.length = m ∧ (row.take (m * E.sz)) = E.all l ∧ ∀ x ∈ l, Wf x := by
      intro m
      induction m with
      | zero => intro _; exact ⟨[], rfl, by simp [Enc.all], by simp⟩
      | succ m ih =>
        intro hm
        obtain ⟨l, k1, k2, k3⟩ := ih (by omega)
        obtain ⟨x, hx, hw⟩ := hE _ (h5 m (by omega))
        refine ⟨l ++ [x], by simp [k1], ?_, ?_⟩
        · rw [E.all_app, ← k2, Nat.add_mul, Nat.one_mul, List.take_add]
          congr 1
          rw [hx]; simp [Enc.all]
        · intro y hy
          rcases List.mem_append.1 hy with hy | hy
          · exact k3 y hy
          · simp at hy; subst hy; exact hw
    obtain ⟨l, k1, k2, k3⟩ := gen len h2
    exact ⟨l, .isl row 0 len cap l (by rw [List.drop_zero, k2]) k1 h2, k3, by omega⟩
theorem dat_int {n t : Nat} {k : IntKind} {a : AV} (ht : (T t).desc = .int k) (hd : Dat T (n + 1) t [a]) : ∃ x, a = .int k x ∧ (Lit.int k x).wf = true := by
  simp only [Dat, ht] at hd
  obtain ⟨x, h1, h2⟩ := hd
  simp at h1
  exact ⟨x, h1, h2⟩
theorem dat_bool {n t : Nat} {a : AV} (ht : (T t).desc = .bool) (hd : Dat T (n + 1) t [a]) : ∃ x, a = .bool x := by
  simp only [Dat, ht] at hd
  obtain ⟨x, h1⟩ := hd
  simp at h1
  exact ⟨x, h1⟩
theorem dat_str {n t : Nat} {a : AV} (ht : (T t).desc = .string) (hd : Dat T (n + 1) t [a]) : ∃ x, a = .str x ∧ x.length ≤ maxLen := by
  simp only [Dat, ht] at hd
  obtain ⟨x, h1, h2⟩ := hd
  simp at h1
  exact ⟨x, h1, h2⟩
theorem wf_u8 {x : Int} (h : (Lit.int .u8 x).wf = true) : 0 ≤ x ∧ x ≤ 255 := by
  simp only [Lit.wf, IntKind.min, IntKind.max, IntKind.signed, IntKind.bits, Bool.false_eq_true, if_false, decide_eq_true_eq, Bool.and_eq_true] at h
  omega
theorem wf_i64 {x : Int} (h : (Lit.int .i64 x).wf = true) : -9223372036854775808 ≤ x ∧ x ≤ 9223372036854775807 := by
  simp only [Lit.wf, IntKind.min, IntKind.max, IntKind.signed, IntKind.bits, if_true, decide_eq_true_eq, Bool.and_eq_true] at h
  omega
theorem dat_e8 {n t : Nat} {c : List AV} (ht : (T t).desc = .int .u8) (hd : Dat T (n + 1) t c) : ∃ x, c = E8.f x ∧ True := by
  simp only [Dat, ht] at hd
  obtain ⟨x, h1, h2⟩ := hd
  have h0 : 0 ≤ x ∧ x ≤ 255 := wf_u8 h2
  exact ⟨UInt8.ofNat x.toNat, by rw [h1, e8_of (by omega) (by omega)], trivial⟩
theorem dat_eI {n t : Nat} {c : List AV} (ht : (T t).desc = .int .i64) (hd : Dat T (n + 1) t c) : ∃ x, c = EI.f x ∧ (-9223372036854775808 ≤ x ∧ x ≤ 9223372036854775807) := by
  simp only [Dat, ht] at hd
  obtain ⟨x, h1, h2⟩ := hd
  exact ⟨x, h1, wf_i64 h2⟩
theorem dat_eS {n t : Nat} {c : List AV} (ht : (T t).desc = .string) (hd : Dat T (n + 1) t c) : ∃ x, c = ES.f x ∧ x.length ≤ maxLen := by
  simp only [Dat, ht] at hd
  obtain ⟨x, h1, h2⟩ := hd
  exact ⟨x, h1, h2⟩
theorem dat_bytes {n t e : Nat} {h : AH} {i : Nat} {a : AV} (ht : (T t).desc = .slice e) (he : (T e).desc = .int .u8) (hs : (T e).size = 1) (hd : Dat T (n + 2) t [a]) : ∃ l, Sl E8 h i a l ∧ l.length ≤ maxLen := by
  obtain ⟨l, h1, _, h2⟩ := dat_slice (h := h) (i := i) ht (fun c hc => dat_e8 (n := n) he hc) hs hd
  exact ⟨l, h1, h2⟩
theorem dat_ints {n t e : Nat} {h : AH} {i : Nat} {a : AV} (ht : (T t).desc = .slice e) (he : (T e).desc = .int .i64) (hs : (T e).size = 1) (hd : Dat T (n + 2) t [a]) : ∃ l, Sl EI h i a l ∧ (∀ x ∈ l, -9223372036854775808 ≤ x ∧ x ≤ 9223372036854775807) ∧ l.length ≤ maxLen :=
  dat_slice (h := h) (i := i) ht (fun c hc => dat_eI (n := n) he hc) hs hd
theorem dat_strs {n t e : Nat} {h : AH} {i : Nat} {a : AV} (ht : (T t).desc = .slice e) (he : (T e).desc = .string) (hs : (T e).size = 1) (hd : Dat T (n + 2) t [a]) : ∃ l, Sl ES h i a l ∧ (∀ x ∈ l, x.length ≤ maxLen) ∧ l.length ≤ maxLen :=
  dat_slice (h := h) (i := i) ht (fun c hc => dat_eS (n := n) he hc) hs hd
/-- What came in does not hang on the heap. -/
theorem Sl.any {α : Type} {E : Enc α} {i : Nat} {a : AV} {l : List α} (p : Sl E AH.empty i a l) (h : AH) (j : Nat) : Sl E h j a l := by
  cases p with
  | nil0 ex z => exact .nil0 ex z
  | blk k cap n ex all l hi => simp [AH.get, AH.empty, Tr.get] at hi
  | isl row o n cap l hl hn hc => exact .isl row o n cap l hl hn hc
end read
end Go.Abs
