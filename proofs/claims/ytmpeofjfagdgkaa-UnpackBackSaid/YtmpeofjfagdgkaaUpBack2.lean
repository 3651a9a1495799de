/- unpack reads whole blocks that pack wrote, plainly. -/
import Derived.Test.YtmpeofjfagdgkaaUpBack
import Derived.Test.YtmpeofjfagdgkaaUpBlock
set_option linter.unusedSimpArgs false
set_option linter.unusedVariables false
namespace Go.Proofs.Ytmpeofjfagdgkaa
open Go.Abs
set_option maxRecDepth 100000
theorem litB_head {b f n : Int} {x : Fd} (hbf : b = 6 ∧ f = 64 ∨ b = 4 ∧ f = 16) (hn : 0 ≤ n) (hn2 : n ≤ 2147483647) : ∃ c r, litB b f n x = c :: r ∧ (c.toNat : Int) / 2 ^ b.toNat * 2 ^ b.toNat = f := by
  obtain ⟨-, c, r, h2, h3⟩ := dNum_put (b := b) (f := f) (n := n) (by omega) (by omega) (by omega) (by omega) hn hn2 (by rcases hbf with ⟨rfl, rfl⟩ | ⟨rfl, rfl⟩ <;> decide) []
  exact ⟨c, r ++ ((if n = 0 then textB x.1 else []) ++ textB x.2.1), by unfold litB; rw [h2]; rfl, h3⟩
/-- One field. -/
theorem step_fld {most : Int} {s : Rd} {e : En} {x : Fd} {more : List UInt8} (hl : s.l = e.l) (hM : s.max = e.known) (ho : s.owed = false) (hn : NevL e.l) (hln : e.l.length ≤ 1000000) (hx : tooLong x = false) (hb : s.b = fldB e x ++ more) :
    ∃ c r, fldB e x = c :: r ∧ dStep most s c = (0, dTell most { s with b := more, l := (fldS e x).l } x) := by
  obtain ⟨x1, x2, x3⟩ := x
  have hx' : x1.length ≤ 65536 ∧ x2.length ≤ 65536 := by
    simp only [tooLong, Bool.or_eq_false_iff, decide_eq_false_iff_not] at hx; omega
  have hu := find_ub x1 x2 e.l hln
  have p7 : (2 : Int) ^ (7 : Int).toNat = 128 := by decide
  have p6 : (2 : Int) ^ (6 : Int).toNat = 64 := by decide
  have p4 : (2 : Int) ^ (4 : Int).toNat = 16 := by decide
  rw [← hl] at hn hu hln
  cases x3 with
  | true =>
    rw [fldB_t] at hb ⊢
    rw [fldS_t]
    obtain ⟨c, r, h1, h2⟩ := litB_head (b := 4) (f := 16) (n := (findE x1 x2 e.l).2) (x := (x1, x2, true)) (.inr ⟨rfl, rfl⟩) (by rw [← hl]; omega) (by rw [← hl]; omega)
    refine ⟨c, r, h1, ?_⟩
    rw [p4] at h2
    have hk := dNamed_put (b := 4) (f := 16) (s := s) (x := (x1, x2, true)) (more := more) (.inr ⟨rfl, rfl⟩) ho hn hln hx' (by rw [hl]; exact hb)
    rw [dStep_D (by omega), hk, if_pos rfl]
    have hd : decide (16 ≤ c.toNat) = true := decide_eq_true (by omega)
    simp only [hd, hl]
  | false =>
    by_cases hf : (findE x1 x2 e.l).1 > 0
    · rw [fldB_f1 _ _ _ hf] at hb ⊢
      rw [fldS_f1 _ _ _ hf]
      obtain ⟨-, c, r, h1, h2⟩ := dNum_put (b := 7) (f := 128) (n := (findE x1 x2 e.l).1) (by omega) (by omega) (by omega) (by omega) (by omega) (by rw [← hl]; omega) (by decide) []
      refine ⟨c, r, h1, ?_⟩
      rw [p7] at h2
      have hk := dKnown_put (s := s) (x := x1) (y := x2) (more := more) ho hn hln (by rw [hl]; exact hf) (by rw [hl]; exact hb)
      rw [dStep_A (by omega), hk, if_pos rfl]
      simp only [hl]
    · rw [fldB_f0 _ _ _ hf] at hb ⊢
      rw [fldS_f0 _ _ _ hf]
      obtain ⟨c, r, h1, h2⟩ := litB_head (b := 6) (f := 64) (n := (findE x1 x2 e.l).2) (x := (x1, x2, false)) (.inl ⟨rfl, rfl⟩) (by rw [← hl]; omega) (by rw [← hl]; omega)
      refine ⟨c, r, h1, ?_⟩
      rw [p6] at h2
      have hk := dNamed_put (b := 6) (f := 64) (s := s) (x := (x1, x2, false)) (more := more) (.inl ⟨rfl, rfl⟩) ho hn hln hx' (by rw [hl]; exact hb)
      rw [dStep_B (by omega) (by omega), hk, if_pos rfl]
      simp only [hl, hM]
theorem mem_shr {lim : Int} {x : Fd} : ∀ {l : List Fd}, x ∈ shr lim l → x ∈ l
  | [], h => h
  | y :: r, h => by
    rw [shr_cons] at h
    split at h
    · exact List.mem_cons_of_mem _ (mem_shr h)
    · exact h
theorem nev_fld {e : En} {x : Fd} (hn : NevL e.l) : NevL (fldS e x).l := by
  unfold fldS
  split
  · exact hn
  · split
    · exact hn
    · intro y hy
      unfold addL at hy
      split at hy
      · rcases List.mem_append.1 hy with h | h
        · exact hn y (mem_shr h)
        · rw [List.mem_singleton.1 h]
      · exact hn y (mem_shr hy)
theorem nev_body : ∀ (fs : List Fd) {e : En}, NevL e.l → NevL (bodyS e fs).l
  | [], e, hn => hn
  | x :: r, e, hn => nev_body r (nev_fld hn)
def tells (most : Int) (s : Rd) (fs : List Fd) : Rd := fs.foldl (dTell most) s
/-- The fields of a block. -/
theorem loop_body (most : Int) : ∀ (fs : List Fd) (s : Rd) (e : En) (n : Nat), s.l = e.l → s.max = e.known → s.owed = false → NevL e.l → e.l.length + fs.length ≤ 1000000 → fs.any tooLong = false → s.b = bodyB e fs → s.b.length ≤ n →
    dLoop most n s = (0, tells most { s with b := [], l := (bodyS e fs).l } fs)
  | [], s, e, n, hl, hM, ho, hn, hln, ht, hb, hnn => by
    have hb : s.b = [] := hb
    rw [dLoop_nil hb]
    show (0, s) = (0, { s with b := [], l := e.l })
    rw [← hb, ← hl]
  | x :: r, s, e, n, hl, hM, ho, hn, hln, ht, hb, hnn => by
    rw [List.any_cons, Bool.or_eq_false_iff] at ht
    simp only [List.length_cons] at hln
    obtain ⟨c, t, h1, h2⟩ := step_fld (most := most) hl hM ho hn (by omega) ht.1 (show s.b = fldB e x ++ bodyB (fldS e x) r from hb)
    have hb2 : s.b = c :: (t ++ bodyB (fldS e x) r) := by
      rw [hb]; show fldB e x ++ bodyB (fldS e x) r = _
      rw [h1]; rfl
    rw [dLoop_cons hb2 hnn, h2, if_pos rfl]
    rw [hb2] at hnn
    simp only [List.length_cons, List.length_append] at hnn
    have hfa := fldS_facts e x
    rw [loop_body most r (dTell most { s with b := bodyB (fldS e x) r, l := (fldS e x).l } x) (fldS e x) (n - 1) rfl (hM.trans hfa.2.1.symm) ho (nev_fld hn) (by omega) ht.2 rfl (by show (bodyB (fldS e x) r).length ≤ _; omega)]
    rfl
/-- One size update. -/
theorem step_upd {most : Int} {s : Rd} {v : Int} {more : List UInt8} (hv : 0 ≤ v) (hv2 : v ≤ s.lim) (hv3 : v ≤ 65536) (hf : s.fl = false) (hu : s.u + 1 ≤ 2) (hb : s.b = numB 5 32 v ++ more) :
    ∃ c r, numB 5 32 v = c :: r ∧ dStep most s c = (0, { s with b := more, u := s.u + 1, owed := false, l := shr v s.l, max := v }) := by
  obtain ⟨h0, c, r, h1, h2⟩ := dNum_put (b := 5) (f := 32) (n := v) (by omega) (by omega) (by omega) (by omega) hv (by omega) (by decide) more
  refine ⟨c, r, h1, ?_⟩
  have p5 : (2 : Int) ^ (5 : Int).toNat = 32 := by decide
  rw [p5] at h2
  rw [dStep_C (by omega) (by omega)]
  rw [← hb] at h0
  have hr : rsz v s.max s.l = (0, shr v s.l, v) := by unfold rsz; rw [if_neg (by omega)]
  unfold dUpd
  rw [h0]
  refine (if_neg (show ¬ ¬ (0 : Int) = 0 from fun h => h rfl)).trans ((if_neg (show ¬ (s.fl = true ∨ s.u + 1 > 2 ∨ v > s.lim) from ?_)).trans ?_)
  · rw [hf]
    rintro (h | h | h)
    · exact absurd h (by decide)
    · omega
    · omega
  · show ((rsz v s.max s.l).1, ({ s with b := more, u := s.u + 1, owed := false, l := (rsz v s.max s.l).2.1, max := (rsz v s.max s.l).2.2 } : Rd)) = _
    rw [hr]
/-- Encoder and decoder belong together. -/
structure Pair2 (e : En) (s : Rd) : Prop where
  ok : EnOk e
  l : s.l = e.l
  m : s.max = e.known
  lt : e.least ≤ e.last
  la : e.last ≤ s.lim
  ow : s.owed = true → e.least < e.known
  nv : NevL e.l
theorem nev_shr {v : Int} {l : List Fd} (h : NevL l) : NevL (shr v l) := fun x hx => h x (mem_shr hx)
/-- What stands ahead of the fields. -/
theorem loop_pre {most : Int} {e : En} {s : Rd} (P : Pair2 e s) {more : List UInt8} {n : Nat} (hb : s.b = preB e ++ more) (hf : s.fl = false) (hu : s.u = 0) (hn : s.b.length ≤ n) :
    ∃ n' u, more.length ≤ n' ∧ dLoop most n s = dLoop most n' { s with b := more, u := u, owed := false, l := (preS e).l, max := (preS e).known } := by
  obtain ⟨⟨k1, k2⟩, ⟨q1, q2⟩, ⟨t1, t2⟩⟩ := P.ok
  have hl := P.l
  have hm := P.m
  have hlt := P.lt
  have hla := P.la
  have how := P.ow
  clear P
  obtain ⟨sl, smax, slim, sow, sb, su, sfl, ssz, sout, sov⟩ := s
  simp only at hl hm hla how hb hf hu hn ⊢
  subst hl hm hf hu
  unfold preB at hb
  rw [List.append_assoc] at hb
  have finish : ∀ (sX : Rd) (n2 : Nat), sX.l = (up1S e).l → sX.max = (up1S e).known → sX.lim = slim → sX.fl = false → 0 ≤ sX.u → sX.u ≤ 1 → sX.b = up2B (up1S e) ++ more → sX.b.length ≤ n2 → (sX.owed = true → e.last < (up1S e).known) → ∃ n' u, more.length ≤ n' ∧ dLoop most n2 sX = dLoop most n' { sX with b := more, u := u, owed := false, l := (preS e).l, max := (preS e).known } := by
    intro sX n2 a1 a2 a3 a4 a5 a5' a6 a7 a8
    have hla1 : (up1S e).last = e.last := by unfold up1S; split <;> rfl
    by_cases c2 : (up1S e).last = (up1S e).known
    · have e1 : up2S (up1S e) = up1S e := by unfold up2S; rw [if_neg (by omega)]
      have e2 : up2B (up1S e) = [] := by unfold up2B; rw [if_neg (by omega)]
      have e3 : (preS e).l = (up1S e).l ∧ (preS e).known = (up1S e).known := by unfold preS; rw [e1]; exact ⟨rfl, rfl⟩
      rw [e2, List.nil_append] at a6
      have ho : sX.owed = false := by
        cases h : sX.owed with
        | false => rfl
        | true => have := a8 h; omega
      refine ⟨n2, sX.u, by rw [← a6]; exact a7, ?_⟩
      rw [e3.1, e3.2, ← a1, ← a2, ← a6, ← ho]
    · have e1 : up2S (up1S e) = updS (up1S e) (up1S e).last := by unfold up2S; rw [if_pos c2]
      have e2 : up2B (up1S e) = numB 5 32 (up1S e).last := by unfold up2B; rw [if_pos c2]
      rw [e2] at a6
      obtain ⟨c, r, h1, h2⟩ := step_upd (most := most) (s := sX) (v := (up1S e).last) (more := more) (by omega) (by omega) (by omega) a4 (by omega) a6
      have hb2 : sX.b = c :: (r ++ more) := by rw [a6, h1]; rfl
      refine ⟨n2 - 1, sX.u + 1, ?_, ?_⟩
      · rw [hb2] at a7
        simp only [List.length_cons, List.length_append] at a7
        omega
      · rw [dLoop_cons hb2 a7, h2, if_pos rfl]
        have e3 : (preS e).l = shr (up1S e).last (up1S e).l ∧ (preS e).known = (up1S e).last := by unfold preS; rw [e1]; exact ⟨rfl, rfl⟩
        rw [e3.1, e3.2, ← a1]
  by_cases c1 : e.least < e.known
  · have e1 : up1S e = updS e e.least := by unfold up1S; rw [if_pos c1]
    have e2 : up1B e = numB 5 32 e.least := by unfold up1B; rw [if_pos c1]
    rw [e2] at hb
    obtain ⟨c, r, h1, h2⟩ := step_upd (most := most) (s := ⟨e.l, e.known, slim, sow, sb, 0, false, ssz, sout, sov⟩) (v := e.least) (more := up2B (up1S e) ++ more) q1 (by show e.least ≤ slim; omega) (by omega) rfl (by show (0 : Int) + 1 ≤ 2; omega) hb
    have hb2 : sb = c :: (r ++ (up2B (up1S e) ++ more)) := by rw [hb, h1]; rfl
    obtain ⟨n', u, h3, h4⟩ := finish ⟨shr e.least e.l, e.least, slim, false, up2B (up1S e) ++ more, 0 + 1, false, ssz, sout, sov⟩ (n - 1) (by rw [e1]; rfl) (by rw [e1]; rfl) rfl rfl (by show (0 : Int) ≤ 0 + 1; omega) (by show (0 : Int) + 1 ≤ 1; omega) rfl (by
      rw [hb2] at hn
      simp only [List.length_cons, List.length_append] at hn ⊢
      omega) (fun h => by cases h)
    refine ⟨n', u, h3, ?_⟩
    rw [dLoop_cons (s := ⟨e.l, e.known, slim, sow, sb, 0, false, ssz, sout, sov⟩) hb2 hn, h2, if_pos rfl]
    exact h4
  · have e1 : up1S e = e := by unfold up1S; rw [if_neg c1]
    have e2 : up1B e = [] := by unfold up1B; rw [if_neg c1]
    rw [e2, List.nil_append] at hb
    exact finish ⟨e.l, e.known, slim, sow, sb, 0, false, ssz, sout, sov⟩ n (by rw [e1]) (by rw [e1]) rfl rfl (Int.le_refl _) (by show (0 : Int) ≤ 1; omega) hb hn (fun h => absurd (how h) c1)
end Go.Proofs.Ytmpeofjfagdgkaa
