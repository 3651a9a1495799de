/- What comes in, read, its sizes bounded: by the form's own reach, or by the second form's bulk. -/
import Derived.Test.YtmpeofjfagdgkaaAbsB
import Derived.SizedLaws
set_option linter.unusedSimpArgs false
set_option linter.unusedVariables false
namespace Go.Abs
open Go.ChangeShapes Go.WideShapes
/-- Cells that are data of a type; Ps: of a text's length; Pc: of a slice's capacity and an element's bytes. -/
def DatB (T : Tys) (Ps : Nat → Prop) (Pc : Nat → Nat → Prop) : Nat → Nat → List AV → Prop
  | 0, _, _ => False
  | n + 1, t, cs => match (T t).desc with
    | .bool => ∃ b, cs = [.bool b]
    | .int k => ∃ x, cs = [.int k x] ∧ (Lit.int k x).wf = true
    | .string => ∃ s, cs = [.str s] ∧ s.length ≤ maxLen ∧ Ps s.length
    | .slice e => cs = [.slice none 0 0 0 true] ∨ ∃ row len cap, cs = [.islice row 0 len cap (T e).size] ∧ len ≤ cap ∧ cap ≤ maxLen ∧ Pc cap (T e).bytes ∧ row.length = cap * (T e).size ∧ ∀ i, i < cap → DatB T Ps Pc n e ((row.drop (i * (T e).size)).take (T e).size)
    | .struct fs => cs.length = (T t).size ∧ ∀ f ∈ fs, DatB T Ps Pc n f.1 ((cs.drop f.2.1).take (T f.1).size)
    | _ => False
/-- By the form's own reach; by the second form's bulk. -/
abbrev DatZ (T : Tys) := DatB T (fun n => n ≤ reachBytes) (fun c b => c * b ≤ reachBytes)
abbrev DatU (T : Tys) := DatB T (fun n => n ≤ 1048576) (fun c _ => c ≤ 1048576)
section read
variable {H : Type} {enc : TypeId × Value → H} {P : Program} {T : Tys} {W : World} {Ps : Nat → Prop} {Pc : Nat → Nat → Prop} {Q : Nat → DataW H → Prop}
/-- What is said of a reading is said of its parts. -/
structure Cl {H : Type} (P : Program) (Ps : Nat → Prop) (Pc : Nat → Nat → Prop) (Q : Nat → DataW H → Prop) : Prop where
  str : ∀ t b, P.underlying t = some .string → Q t (.lit (.string b)) → Ps b.length
  sl : ∀ t e elems spare, P.underlying t = some (.slice e) → Q t (.slice elems spare) → Pc (elems.length + spare.length) (P.bytesOf e) ∧ ∀ d ∈ elems ++ spare, Q e d
  st : ∀ t (fs : Array Field) parts, P.underlying t = some (.struct fs) → Q t (.agg parts) → ∀ (j : Nat) (g : Field) d, fs[j]? = some g → parts[j]? = some d → Q g.type d
/-- It is plain data too. -/
theorem DatB.dat : ∀ {n t : Nat} {cs : List AV}, DatB T Ps Pc n t cs → Dat T n t cs
  | 0, _, _, h => h
  | n + 1, t, cs, h => by
    simp only [DatB] at h
    simp only [Dat]
    split at h <;> rename_i hd <;> simp only [hd]
    · exact h
    · exact h
    · obtain ⟨s, h1, h2, _⟩ := h; exact ⟨s, h1, h2⟩
    · rcases h with h | ⟨row, len, cap, h1, h2, h3, _, h4, h5⟩
      · exact .inl h
      · exact .inr ⟨row, len, cap, h1, h2, h3, h4, fun i hi => DatB.dat (h5 i hi)⟩
    · exact ⟨h.1, fun f hf => DatB.dat (h.2 f hf)⟩
    · exact h.elim
theorem read_fieldsB {n : Nat} {cs : List Value} : ∀ {fs : List (Nat × Nat × Bool)} {o : Nat}, laidB T o fs cs.length = true → (∀ f ∈ fs, ∃ as, VRs W r0 as ((cs.drop f.2.1).take (T f.1).size) ∧ DatB T Ps Pc n f.1 as) →
    ∃ as, VRs W r0 as (cs.drop o) ∧ ∀ f ∈ fs, o ≤ f.2.1 ∧ DatB T Ps Pc n f.1 ((as.drop (f.2.1 - o)).take (T f.1).size)
  | [], o, h, hf => by
    simp [laidB] at h
    refine ⟨[], ?_, by simp⟩
    rw [h, List.drop_length]; exact .nil
  | f :: r, o, h, hf => by
    simp only [laidB, Bool.and_eq_true, beq_iff_eq] at h
    obtain ⟨h1, h2⟩ := h
    obtain ⟨as2, k1, k2⟩ := read_fieldsB h2 fun g hg => hf g (List.mem_cons_of_mem _ hg)
    obtain ⟨as1, j1, j2⟩ := hf f List.mem_cons_self
    have hle := laid_le h2
    have hl1 : as1.length = (T f.1).size := by rw [j1.length, List.length_take, List.length_drop]; omega
    refine ⟨as1 ++ as2, ?_, ?_⟩
    · have : cs.drop o = (cs.drop f.2.1).take (T f.1).size ++ cs.drop (o + (T f.1).size) := by
        rw [h1, ← List.drop_drop, List.take_append_drop]
      rw [this]
      exact j1.append k1
    · intro g hg
      rcases List.mem_cons.1 hg with rfl | hg
      · refine ⟨by omega, ?_⟩
        rw [show g.2.1 - o = 0 by omega, List.drop_zero, List.take_append_of_le_length (by omega), ← hl1, List.take_length]
        exact j2
      · obtain ⟨k3, k4⟩ := k2 g hg
        refine ⟨by omega, ?_⟩
        have e : g.2.1 - o = as1.length + (g.2.1 - (o + (T f.1).size)) := by omega
        rw [e, ← List.drop_drop, List.drop_left]
        exact k4
theorem read_elemsB {n sz b off e : Nat} (hz : sz = (T e).size) : ∀ (cap : Nat), (∀ i, i < cap → ∃ cs as, cs.length = sz ∧ (∀ j, j < sz → W.cell? ⟨b, off + (i * sz + j), none⟩ = cs[j]?) ∧ VRs W r0 as cs ∧ DatB T Ps Pc n e as) →
    ∃ row vs, VRs W r0 row vs ∧ row.length = cap * sz ∧ (∀ i, i < cap → DatB T Ps Pc n e ((row.drop (i * sz)).take sz)) ∧ ∀ j v, vs[j]? = some v → W.cell? ⟨b, off + j, none⟩ = some v
  | 0, _ => ⟨[], [], .nil, by simp, fun i hi => by omega, fun j v h => by simp at h⟩
  | cap + 1, h => by
    obtain ⟨row, vs, h1, h2, h3, h4⟩ := read_elemsB hz cap fun i hi => h i (by omega)
    obtain ⟨cs, as, k1, k2, k3, k4⟩ := h cap (by omega)
    have hvl : vs.length = cap * sz := by rw [← h1.length, h2]
    have hal : as.length = sz := by rw [k3.length, k1]
    refine ⟨row ++ as, vs ++ cs, h1.append k3, by rw [List.length_append, h2, hal, Nat.add_mul, Nat.one_mul], ?_, ?_⟩
    · intro i hi
      by_cases hc : i < cap
      · have e1 : (i + 1) * sz ≤ cap * sz := Nat.mul_le_mul_right _ hc
        rw [Nat.add_mul, Nat.one_mul] at e1
        rw [List.drop_append_of_le_length (by omega), List.take_append_of_le_length (by rw [List.length_drop]; omega)]
        exact h3 i hc
      · have : i = cap := by omega
        subst this
        rw [← h2, List.drop_left, ← hal, List.take_length]
        exact k4
    · intro j v hj
      by_cases hc : j < cap * sz
      · rw [List.getElem?_append_left (by omega)] at hj
        exact h4 j v hj
      · rw [List.getElem?_append_right (by omega), hvl] at hj
        have hlt := (List.getElem?_eq_some_iff.1 hj).1
        have := k2 (j - cap * sz) (by omega)
        rw [hj] at this
        rw [← this]
        congr 2
        omega
theorem read_trodB (hT : TOk P T) (cl : Cl P Ps Pc Q) : ∀ (n fuel t : Nat) (cs : List Value) (x : DataW H × List MemPlace), plainB T n t = true → Q t x.1 → DataW.trod enc P W 0 (fun _ => true) true fuel t cs = some x → ∃ as, VRs W r0 as cs ∧ DatB T Ps Pc n t as
  | 0, fuel, t, cs, x, hp, _, _ => by simp [plainB] at hp
  | n + 1, fuel, t, cs, x, hp, hq, h => by
    have hnb : (T t).desc ≠ .bad := by intro hb; simp [plainB, hb] at hp
    obtain ⟨i, d, z, hi, hd, htd, hsz, hbz, _⟩ := hT t hnb
    simp only [plainB] at hp
    simp only [DatB]
    cases d with
    | bool =>
      rw [← htd]
      obtain ⟨b, rfl, _⟩ := DataW.trod_bool hd h
      exact ⟨[.bool b], .cons _ _ _ _ (.bool b) .nil, b, rfl⟩
    | int k =>
      rw [← htd]
      obtain ⟨y, rfl, _, hw⟩ := DataW.trod_int hd h
      exact ⟨[.int k y], .cons _ _ _ _ (.int k y) .nil, y, rfl, hw⟩
    | string =>
      rw [← htd]
      obtain ⟨s, rfl, hx, hw⟩ := DataW.trod_string hd h
      obtain ⟨⟨l⟩⟩ := s
      rw [hx] at hq
      exact ⟨[.str l], .cons _ _ _ _ (.str l) .nil, l, rfl, hw, cl.str t l hd hq⟩
    | slice e =>
      rw [← htd] at hp ⊢
      simp only [tdOf, Bool.and_eq_true] at hp ⊢
      obtain ⟨hp1, hp2⟩ := hp
      have hpos : 0 < (T e).size := by simpa [Nat.blt_eq] using hp2
      have hce : P.cellsOf e = (T e).size := by
        have hnb2 : (T e).desc ≠ .bad := by
          intro hb
          cases n with
          | zero => simp [plainB] at hp1
          | succ n => simp [plainB, hb] at hp1
        obtain ⟨i2, _, _, hi2, _, _, hs2, _⟩ := hT e hnb2
        simp [Program.cellsOf, hi2, hs2]
      rcases DataW.trod_slice hd h with ⟨rfl, _⟩ | ⟨a, len, cap, elems, rest, m, _, rfl, hx, hb, hl, hm, hlen, hel, hsp, _⟩
      · exact ⟨[.slice none 0 0 0 true], .cons _ _ _ _ (.slice0 _ _) .nil, .inl rfl⟩
      · obtain ⟨hrl, hr⟩ := hsp rfl
        rw [hx] at hq
        obtain ⟨hq1, hq2⟩ := cl.sl t e _ _ hd hq
        have hcap : (elems.map (·.1)).length + (rest.map (·.1)).length = cap := by rw [List.length_map, List.length_map, hrl]; omega
        rw [hcap] at hq1
        have hbe : P.bytesOf e = (T e).bytes := by
          have hnb2 : (T e).desc ≠ .bad := by
            intro hb
            cases n with
            | zero => simp [plainB] at hp1
            | succ n => simp [plainB, hb] at hp1
          obtain ⟨i2, _, _, hi2, _, _, _, hs2, _⟩ := hT e hnb2
          simp [Program.bytesOf, hi2, hs2]
        rw [hbe] at hq1
        have each : ∀ i, i < cap → ∃ cs, W.cells? 0 (a.add (i * (T e).size)) (T e).size = some cs ∧ ∃ y, Q e y.1 ∧ DataW.trod enc P W 0 (fun _ => true) true m e cs = some y := by
          intro i hi
          rw [hce] at hel hr
          have key : ∃ y, Q e y.1 ∧ (W.cells? 0 (a.add (i * (T e).size)) (T e).size).bind (DataW.trod enc P W 0 (fun _ => true) true m e) = some y := by
            by_cases hil : i < len
            · exact ⟨elems[i]'(by omega), hq2 _ (List.mem_append_left _ (List.mem_map_of_mem (List.getElem_mem _))), by rw [hel i hil, List.getElem?_eq_getElem (by omega)]⟩
            · have := hr (i - len) (by omega)
              rw [show len + (i - len) = i by omega] at this
              exact ⟨rest[i - len]'(by omega), hq2 _ (List.mem_append_right _ (List.mem_map_of_mem (List.getElem_mem _))), by rw [this, List.getElem?_eq_getElem (by omega)]⟩
          obtain ⟨y, hyq, hy⟩ := key
          obtain ⟨cs, h1, h2⟩ := Option.bind_eq_some_iff.1 hy
          exact ⟨cs, h1, y, hyq, h2⟩
        rcases Nat.eq_zero_or_pos cap with h0 | h0
        · subst h0
          have : len = 0 := by omega
          subst this
          exact ⟨[.islice [] 0 0 0 (T e).size], .cons _ _ _ _ (.isliceE _ _ _ _) .nil, .inr ⟨[], 0, 0, rfl, Nat.le_refl _, by omega, hq1, by simp, fun i hi => by omega⟩⟩
        · obtain ⟨b, off, spot⟩ := a
          have hspot : spot = none := by
            obtain ⟨cs, h1, _⟩ := each 0 h0
            obtain ⟨_, h2, h3⟩ := World.cells?_some h1
            have := h3 0 hpos
            rw [List.getElem?_eq_getElem (by omega)] at this
            simp only [Nat.zero_mul, Addr.add, if_true] at this
            unfold World.cell? at this
            split at this
            · split at this
              · simp at this
              · rename_i hs; simpa using hs
            · simp at this
          subst hspot
          obtain ⟨row, vs, k1, k2, k3, k4⟩ := read_elemsB (W := W) (T := T) (n := n) (b := b) (off := off) (e := e) rfl cap fun i hi => by
            obtain ⟨cs, h1, y, hyq, h2⟩ := each i hi
            obtain ⟨_, j1, j2⟩ := World.cells?_some h1
            obtain ⟨as, q1, q2⟩ := read_trodB hT cl n m e cs y hp1 hyq h2
            refine ⟨cs, as, j1, fun j hj => ?_, q1, q2⟩
            rw [← j2 j hj, add_plain, add_plain, Nat.add_assoc]
          exact ⟨[.islice row 0 len cap (T e).size], .cons _ _ _ _ (.islice row 0 len cap _ b off vs k1 k4 hl) .nil, .inr ⟨row, len, cap, rfl, hl, hm, hq1, k2, k3⟩⟩
    | struct fs =>
      rw [← htd] at hp ⊢
      simp only [tdOf, Bool.and_eq_true, List.all_eq_true] at hp ⊢
      obtain ⟨hp1, hp2⟩ := hp
      obtain ⟨xs, m, _, hx, hcl, hxl, hf⟩ := DataW.trod_struct hd h
      rw [hx] at hq
      have hqs := cl.st t fs _ hd hq
      have hct : P.cellsOf t = (T t).size := by simp [Program.cellsOf, hi, hsz]
      rw [hct] at hcl
      rw [← hcl] at hp1
      obtain ⟨as, k1, k2⟩ := read_fieldsB (W := W) (n := n) hp1 fun f hfm => by
        obtain ⟨g, hg, rfl⟩ := List.mem_map.1 hfm
        obtain ⟨j, hj⟩ := List.getElem?_of_mem hg
        have hj' : fs[j]? = some g := by simpa using hj
        have := hf j g hj'
        have hlt : j < xs.length := by rw [hxl]; exact (Array.getElem?_eq_some_iff.1 hj').1
        rw [List.getElem?_eq_getElem hlt] at this
        have hpg := hp2 _ hfm
        have hcg : P.cellsOf g.type = (T g.type).size := by
          have hnb2 : (T g.type).desc ≠ .bad := by
            intro hb
            cases n with
            | zero => simp [plainB] at hpg
            | succ n => simp [plainB, hb] at hpg
          obtain ⟨i2, _, _, hi2, _, _, hs2, _⟩ := hT g.type hnb2
          simp [Program.cellsOf, hi2, hs2]
        rw [hcg] at this
        exact read_trodB hT cl n m g.type _ _ hpg (hqs j g _ hj' (by rw [List.getElem?_map, List.getElem?_eq_getElem hlt]; rfl)) this
      refine ⟨as, by simpa using k1, ?_, fun f hfm => by simpa using (k2 f hfm).2⟩
      rw [← hcl, k1.length, List.length_drop]; rfl
    | _ => rw [← htd] at hp; simp [tdOf] at hp
/-- An argument. -/
theorem arg_readB (hT : TOk P T) (cl : Cl P Ps Pc Q) {n t : Nat} {v : Value} {d : DataW H} {ps : List MemPlace} {r : Reach} {b0 : Nat} (hp : plainB T n t = true) (hval : Value.okWide P W r b0 t v) (hqd : Q t d) (hd : DataW.Trod enc P W 0 (fun _ => true) true t v d ps) :
    ∃ a, VR W r0 a v ∧ DatB T Ps Pc n t a.cells ∧ ((T t).desc.isAgg = true → ∃ cs, a = .agg cs) ∧ ((T t).desc.isAgg = false → a.cells = [a]) := by
  obtain ⟨fuel, hf⟩ := hd
  obtain ⟨as, h1, h2⟩ := read_trodB hT cl n fuel t _ _ hp hqd hf
  have hnb : (T t).desc ≠ .bad := by
    intro hb
    cases n with
    | zero => simp [plainB] at hp
    | succ n => simp [plainB, hb] at hp
  obtain ⟨i, dd, z, hi, hd, htd, hsz, _⟩ := hT t hnb
  have leaf : v.cells.toList = [v] → (T t).desc.isAgg = false → (∀ a, VR W r0 a v → a.cells = [a]) → ∃ a, VR W r0 a v ∧ DatB T Ps Pc n t a.cells ∧ ((T t).desc.isAgg = true → ∃ cs, a = .agg cs) ∧ ((T t).desc.isAgg = false → a.cells = [a]) := by
    intro hv ha hc
    rw [hv] at h1
    cases h1 with
    | cons a _ l _ h hs =>
      cases hs
      have := hc a h
      exact ⟨a, h, by rw [this]; exact h2, fun e => by rw [ha] at e; simp at e, fun _ => this⟩
  cases dd with
  | bool => obtain ⟨b, rfl⟩ := okWide_bool hd hval; exact leaf rfl (by rw [← htd]; rfl) fun a h => by cases h; rfl
  | int k => obtain ⟨b, rfl⟩ := okWide_int hd hval; exact leaf rfl (by rw [← htd]; rfl) fun a h => by cases h; rfl
  | string => obtain ⟨b, rfl⟩ := okWide_string hd hval; exact leaf rfl (by rw [← htd]; rfl) fun a h => by cases h; rfl
  | slice e => obtain ⟨a, l, c, rfl⟩ := okWide_slice hd hval; exact leaf rfl (by rw [← htd]; rfl) fun a h => by cases h <;> rfl
  | struct fs =>
    obtain ⟨cs, rfl, _⟩ := okWide_struct hd hval
    refine ⟨.agg as, ?_, h2, fun _ => ⟨as, rfl⟩, fun e => by rw [← htd] at e; simp [tdOf, TD.isAgg] at e⟩
    have := VR.agg (w0 := W) (ρ := r0) as cs.toList h1
    simpa using this
  | _ =>
    cases n with
    | zero => simp [plainB] at hp
    | succ n => simp only [plainB, ← htd] at hp; simp [tdOf] at hp
/-- The form's own reach. -/
theorem cl_reach : Cl (H := H) P (fun n => n ≤ reachBytes) (fun c b => c * b ≤ reachBytes) (fun t d => (d.weights P t).all (· ≤ reachBytes) = true) := by
  refine ⟨fun t b ht h => ?_, fun t e elems spare ht h => ?_, fun t fs parts ht h j g d hg hd => ?_⟩
  · simpa [DataW.weights] using h
  · have mem : ∀ (l : List (DataW H)), (DataW.weightsAll P e l).all (· ≤ reachBytes) = true → ∀ d ∈ l, (d.weights P e).all (· ≤ reachBytes) = true := by
      intro l
      induction l with
      | nil => intro _ d hd; cases hd
      | cons x r ih =>
        intro h d hd
        simp only [DataW.weightsAll, List.all_append, Bool.and_eq_true] at h
        rcases List.mem_cons.1 hd with rfl | hd
        · exact h.1
        · exact ih h.2 d hd
    simp only [DataW.weights, ht, List.all_cons, List.all_append, Bool.and_eq_true, decide_eq_true_eq] at h
    refine ⟨h.1, fun d hd => ?_⟩
    rcases List.mem_append.1 hd with hd | hd
    · exact mem _ h.2.1 d hd
    · exact mem _ h.2.2 d hd
  · simp only [DataW.weights, ht] at h
    have key : ∀ (l : List Nat) (ps : List (DataW H)) (j t : Nat) (d : DataW H), (DataW.weightsEach P l ps).all (· ≤ reachBytes) = true → l[j]? = some t → ps[j]? = some d → (d.weights P t).all (· ≤ reachBytes) = true := by
      intro l ps j t d h h1 h2
      rw [List.all_eq_true] at h ⊢
      exact fun n hn => h n (DataW.weights_mem_each h1 h2 n hn)
    exact key _ _ j g.type d h (by simp [hg]) hd
theorem reach_hd {t : Nat} {ts : List Nat} {d : DataW H} {ds : List (DataW H)} (h : (DataW.weightsEach P (t :: ts) (d :: ds)).all (· ≤ reachBytes) = true) : (d.weights P t).all (· ≤ reachBytes) = true ∧ (DataW.weightsEach P ts ds).all (· ≤ reachBytes) = true := by
  simpa only [DataW.weightsEach, List.all_append, Bool.and_eq_true] using h
/-- A slice that came in: its elements. -/
theorem dat_sliceB {α : Type} {E : Enc α} {Wf : α → Prop} {n t e : Nat} {h : AH} {i : Nat} {a : AV} (ht : (T t).desc = .slice e) (hE : ∀ c, DatB T Ps Pc n e c → ∃ x, c = E.f x ∧ Wf x) (hs : (T e).size = E.sz) (hd : DatB T Ps Pc (n + 1) t [a]) : ∃ l, Sl E h i a l ∧ (∀ x ∈ l, Wf x) ∧ (l = [] ∨ ∃ c, l.length ≤ c ∧ Pc c (T e).bytes) := by
  simp only [DatB, ht] at hd
  rcases hd with h1 | ⟨row, len, cap, h1, h2, h3, hpc, h4, h5⟩
  · simp at h1; subst h1
    exact ⟨[], .nil0 _ _, by simp, .inl rfl⟩
  · simp at h1; subst h1
    rw [hs] at h4 h5 ⊢
    have gen : ∀ m, m ≤ cap → ∃ l : List α, l.length = m ∧ (row.take (m * E.sz)) = E.all l ∧ ∀ x ∈ l, Wf x := by
      intro m
      induction m with
      | zero => intro _; exact ⟨[], rfl, by simp [Enc.all], by simp⟩
      | succ m ih =>
        intro hm
        obtain ⟨l, k1, k2, k3⟩ := ih (by omega)
        obtain ⟨x, hx, hw⟩ := hE _ (h5 m (by omega))
        refine ⟨l ++ [x], by simp [k1], ?_, ?_⟩
        · rw [E.all_app, ← k2, Nat.add_mul, Nat.one_mul, List.take_add]
          congr 1
          rw [hx]; simp [Enc.all]
        · intro y hy
          rcases List.mem_append.1 hy with hy | hy
          · exact k3 y hy
          · simp at hy; subst hy; exact hw
    obtain ⟨l, k1, k2, k3⟩ := gen len h2
    exact ⟨l, .isl row 0 len cap l (by rw [List.drop_zero, k2]) k1 h2, k3, .inr ⟨cap, by omega, hpc⟩⟩
theorem datB_int {n t : Nat} {k : IntKind} {a : AV} (ht : (T t).desc = .int k) (hd : DatB T Ps Pc (n + 1) t [a]) : ∃ x, a = .int k x ∧ (Lit.int k x).wf = true := dat_int ht hd.dat
theorem datB_bool {n t : Nat} {a : AV} (ht : (T t).desc = .bool) (hd : DatB T Ps Pc (n + 1) t [a]) : ∃ x, a = .bool x := dat_bool ht hd.dat
theorem datB_str {n t : Nat} {a : AV} (ht : (T t).desc = .string) (hd : DatB T Ps Pc (n + 1) t [a]) : ∃ x, a = .str x ∧ Ps x.length := by
  simp only [DatB, ht] at hd
  obtain ⟨x, h1, h2, h3⟩ := hd
  simp at h1
  exact ⟨x, h1, h3⟩
theorem datB_eS {n t : Nat} {c : List AV} (ht : (T t).desc = .string) (hd : DatB T Ps Pc (n + 1) t c) : ∃ x, c = ES.f x ∧ Ps x.length := by
  simp only [DatB, ht] at hd
  obtain ⟨x, h1, h2, h3⟩ := hd
  exact ⟨x, h1, h3⟩
/-- A field of one cell. -/
theorem datB_f1 {n t ft off : Nat} {b : Bool} {cs : List AV} {fs : List (Nat × Nat × Bool)} (ht : (T t).desc = .struct fs) (hd : DatB T Ps Pc (n + 1) t cs) (hm : (ft, off, b) ∈ fs) (hz : (T ft).size = 1) (ho : off < (T t).size) : ∃ v, cs[off]? = some v ∧ DatB T Ps Pc n ft [v] := by
  simp only [DatB, ht] at hd
  obtain ⟨hl, hf⟩ := hd
  have h1 := hf _ hm
  have hlt : off < cs.length := by omega
  refine ⟨cs[off], List.getElem?_eq_getElem hlt, ?_⟩
  have : (cs.drop off).take 1 = [cs[off]] := by rw [List.drop_eq_getElem_cons hlt]; rfl
  rw [← this, ← hz]; exact h1
/-- A field of several cells. -/
theorem datB_fn {n t ft off : Nat} {b : Bool} {cs : List AV} {fs : List (Nat × Nat × Bool)} (ht : (T t).desc = .struct fs) (hd : DatB T Ps Pc (n + 1) t cs) (hm : (ft, off, b) ∈ fs) : DatB T Ps Pc n ft ((cs.drop off).take (T ft).size) := by
  simp only [DatB, ht] at hd
  exact hd.2 _ hm
end read
end Go.Abs
