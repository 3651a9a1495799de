/- unpack reads what pack wrote, plainly. -/
import Derived.Test.YtmpeofjfagdgkaaUpPlain
set_option linter.unusedSimpArgs false
set_option linter.unusedVariables false
namespace Go.Proofs.Ytmpeofjfagdgkaa
open Go.Abs
set_option maxRecDepth 100000
theorem dNum_put {b f n : Int} (hb : 1 ≤ b) (hb8 : b ≤ 8) (hf : 0 ≤ f) (hf2 : f ≤ 255) (hn : 0 ≤ n) (hn2 : n ≤ 2147483647) (hm : f % 2 ^ b.toNat = 0) (more : List UInt8) :
    dNum b (numB b f n ++ more) = (0, n, more) ∧ ∃ c r, numB b f n = c :: r ∧ (c.toNat : Int) / 2 ^ b.toNat * 2 ^ b.toNat = f := by
  obtain ⟨-, -, -, h1, h2, -⟩ := putS_ok hb hb8 hf hf2 hn hn2 hm
  refine ⟨?_, h1⟩
  have h3 := h2 more
  unfold dNum numB
  rw [h3]
  simp
theorem dText_ok {b rest : List UInt8} {n : Int} (h : dNum 7 b = (0, n, rest)) (hn : n ≤ rest.length) : dText b = if coded b = true then ((getB (rest.take n.toNat)).1, (getB (rest.take n.toNat)).2, rest.drop n.toNat) else (0, rest.take n.toNat, rest.drop n.toNat) := by
  unfold dText
  rw [h]
  exact if_neg (show ¬ (¬ (0 : Int) = 0 ∨ n > (rest.length : Int)) from by omega)
theorem dKnown_ok {s : Rd} {n : Int} {rest : List UInt8} (h : dNum 7 s.b = (0, n, rest)) (ho : s.owed = false) : dKnown s = ((dEnt n s.l).2, (dEnt n s.l).1, rest) := by
  unfold dKnown
  rw [h]
  exact (if_neg (show ¬ ¬ (0 : Int) = 0 from fun h => h rfl)).trans (if_neg (by rw [ho]; decide))
theorem dNamed_ok {bits : Int} {s : Rd} {n e : Int} {rest r2 r3 t : List UInt8} {f : Fd} (h : dNum bits s.b = (0, n, rest)) (ho : s.owed = false) (h2 : dName n s.l rest = (0, f, r2)) (h3 : dText r2 = (e, t, r3)) : dNamed bits s = (e, (f.1, t, f.2.2), r3) := by
  unfold dNamed
  rw [h]
  refine (if_neg (show ¬ ¬ (0 : Int) = 0 from fun h => h rfl)).trans ((if_neg (by rw [ho]; decide)).trans ?_)
  show (if ¬ (dName n s.l rest).1 = 0 then _ else _) = _
  rw [h2]
  refine (if_neg (show ¬ ¬ (0 : Int) = 0 from fun h => h rfl)).trans ?_
  show ((dText r2).1, (f.1, (dText r2).2.1, f.2.2), (dText r2).2.2) = _
  rw [h3]
theorem dText_put (s more : List UInt8) (hs : s.length ≤ 65536) : dText (textB s ++ more) = (0, s, more) := by
  unfold textB
  rw [if_neg (by omega)]
  have e7 : (2 : Int) ^ (7 : Int).toNat = 128 := by decide
  split
  · rename_i hc
    have hk := putB_len2 s
    have hnn := bitsLen_nn s
    obtain ⟨h1, c, r, h2, h3⟩ := dNum_put (b := 7) (f := 128) (n := (bitsLen s + 7) / 8) (by omega) (by omega) (by omega) (by omega) (by omega) (by omega) (by decide) (putB s ++ more)
    rw [e7] at h3
    have hcd : coded (numB 7 128 ((bitsLen s + 7) / 8) ++ (putB s ++ more)) = true := by
      rw [h2]
      show decide (128 ≤ c.toNat) = true
      have := c.toNat_lt
      exact decide_eq_true (by omega)
    rw [List.append_assoc, dText_ok h1 (by rw [List.length_append]; omega), if_pos hcd]
    have ht : ((bitsLen s + 7) / 8).toNat = (putB s).length := by omega
    rw [ht, List.take_left, List.drop_left, get_put]
  · obtain ⟨h1, c, r, h2, h3⟩ := dNum_put (b := 7) (f := 0) (n := s.length) (by omega) (by omega) (by omega) (by omega) (by omega) (by omega) (by decide) (s ++ more)
    rw [e7] at h3
    have hcd : ¬ coded (numB 7 0 s.length ++ (s ++ more)) = true := by
      rw [h2]
      show ¬ decide (128 ≤ c.toNat) = true
      rw [decide_eq_true_eq]
      omega
    rw [List.append_assoc, dText_ok h1 (by rw [List.length_append]; omega), if_neg hcd]
    simp
/-- Where a field was found. -/
theorem fnd_at (x y : List UInt8) : ∀ (l : List Fd) (k : Int), 1 ≤ k → ((fnd x y l k).1 > 0 → ∃ j : Nat, j < l.length ∧ (fnd x y l k).1 = k + (j : Int) ∧ (l[j]!).1 = x ∧ (l[j]!).2.1 = y) ∧ ((fnd x y l k).2 > 0 → ∃ j : Nat, j < l.length ∧ (fnd x y l k).2 = k + (j : Int) ∧ (l[j]!).1 = x)
  | [], k, hk => by simp [fnd]
  | f :: r, k, hk => by
    obtain ⟨i1, i2⟩ := fnd_at x y r (k + 1) (by omega)
    rw [fnd_cons]
    refine ⟨?_, ?_⟩
    · by_cases hc : f.1 = x ∧ f.2.1 = y
      · simp only [if_pos hc]
        exact fun _ => ⟨0, by simp, by simp, hc.1, hc.2⟩
      · simp only [if_neg hc]
        intro h
        obtain ⟨j, a, b, c⟩ := i1 h
        refine ⟨j + 1, by simp; omega, by push_cast; omega, ?_⟩
        rw [show (f :: r)[j + 1]! = r[j]! by simp]
        exact c
    · by_cases hc : f.1 = x
      · simp only [if_pos hc]
        exact fun _ => ⟨0, by simp, by simp, hc⟩
      · simp only [if_neg hc]
        intro h
        obtain ⟨j, a, b, c⟩ := i2 h
        refine ⟨j + 1, by simp; omega, by push_cast; omega, ?_⟩
        rw [show (f :: r)[j + 1]! = r[j]! by simp]
        exact c
/-- Nothing in the list is Never. -/
def NevL (l : List Fd) : Prop := ∀ x ∈ l, x.2.2 = false
theorem getF_rev {l : List Fd} {j : Nat} (h : j < l.length) : getF (1 + (j : Int)) l = (l.reverse[j]!, 0) := by
  unfold getF
  rw [if_neg (by omega), show (1 + (j : Int)).toNat = j + 1 by omega]
  rw [getElem!_pos l _ (by omega), getElem!_pos l.reverse j (by simp; omega), List.getElem_reverse]
  congr 2
  omega
theorem nev_at {l : List Fd} (hn : NevL l) {j : Nat} (h : j < l.length) : (l.reverse[j]!).2.2 = false := by
  rw [getElem!_pos l.reverse j (by simp; omega)]
  exact hn _ (List.mem_reverse.1 (List.getElem_mem _))
theorem ent_mix {s d : Int} {l : List Fd} (hn : NevL l) (hs : s > 0 → ∃ j : Nat, j < 61 ∧ s = 1 + (j : Int)) (hs0 : 0 ≤ s) (hd : d > 0 → ∃ j : Nat, j < l.length ∧ d = 1 + (j : Int)) (h : mix s d > 0) :
    (dEnt (mix s d) l).2 = 0 ∧ (dEnt (mix s d) l).1.2.2 = false ∧ (s > 0 ∧ (dEnt (mix s d) l).1 = statL[s.toNat - 1]! ∨ s = 0 ∧ d > 0 ∧ (dEnt (mix s d) l).1 = l.reverse[d.toNat - 1]!) := by
  unfold mix at h ⊢
  split at h
  · rename_i hc
    obtain ⟨j, hj, hdj⟩ := hd hc.2
    rw [if_pos hc]
    have e : dEnt (61 + d) l = (l.reverse[j]!, 0) := by
      unfold dEnt
      rw [if_neg (by omega), show 61 + d - 61 = 1 + (j : Int) by omega, getF_rev hj]
    rw [e]
    exact ⟨rfl, nev_at hn hj, .inr ⟨hc.1, hc.2, by rw [show d.toNat - 1 = j from by omega]⟩⟩
  · rename_i hc
    obtain ⟨j, hj, hsj⟩ := hs h
    rw [if_neg hc]
    have e : dEnt s l = (statL[s.toNat - 1]!, 0) := by
      unfold dEnt statG
      rw [if_pos (by omega), if_neg (by omega)]
    rw [e]
    refine ⟨rfl, ?_, .inl ⟨h, rfl⟩⟩
    show (statL[s.toNat - 1]!).2.2 = false
    rw [show s.toNat - 1 = j from by omega]; exact (stat_cut j hj).2.1
theorem ent1 (x y : List UInt8) {l : List Fd} (hn : NevL l) (h : (findE x y l).1 > 0) : dEnt (findE x y l).1 l = ((x, y, false), 0) := by
  obtain ⟨a1, -⟩ := fnd_at x y statL 1 (by omega)
  obtain ⟨b1, -⟩ := fnd_at x y l.reverse 1 (by omega)
  have h0 := (fnd_le x y statL 1 (by omega)).1
  unfold findE at h ⊢
  simp only at h ⊢
  generalize (fnd x y statL 1).1 = s at *
  generalize (fnd x y l.reverse 1).1 = d at *
  obtain ⟨e1, e2, e3⟩ := ent_mix hn (fun h => by obtain ⟨j, q1, q2, -⟩ := a1 h; rw [stat_len] at q1; exact ⟨j, q1, q2⟩) h0 (fun h => by obtain ⟨j, q1, q2, -⟩ := b1 h; exact ⟨j, by simpa using q1, q2⟩) h
  generalize dEnt (mix s d) l = z at *
  obtain ⟨⟨z1, z2, z3⟩, z4⟩ := z
  simp only at e1 e2 e3
  rcases e3 with ⟨hs, e3⟩ | ⟨hs, hd, e3⟩
  · obtain ⟨j, q1, q2, q3, q4⟩ := a1 hs
    rw [show s.toNat - 1 = j from by omega] at e3
    rw [← e3] at q3 q4
    simp only at q3 q4
    rw [e1, e2, q3, q4]
  · obtain ⟨j, q1, q2, q3, q4⟩ := b1 hd
    rw [show d.toNat - 1 = j from by omega] at e3
    rw [← e3] at q3 q4
    simp only at q3 q4
    rw [e1, e2, q3, q4]
theorem ent2 (x y : List UInt8) {l : List Fd} (hn : NevL l) (h : (findE x y l).2 > 0) : (dEnt (findE x y l).2 l).2 = 0 ∧ (dEnt (findE x y l).2 l).1.1 = x ∧ (dEnt (findE x y l).2 l).1.2.2 = false := by
  obtain ⟨-, a1⟩ := fnd_at x y statL 1 (by omega)
  obtain ⟨-, b1⟩ := fnd_at x y l.reverse 1 (by omega)
  have h0 := (fnd_le x y statL 1 (by omega)).2.2.1
  unfold findE at h ⊢
  simp only at h ⊢
  generalize (fnd x y statL 1).2 = s at *
  generalize (fnd x y l.reverse 1).2 = d at *
  obtain ⟨e1, e2, e3⟩ := ent_mix hn (fun h => by obtain ⟨j, q1, q2, -⟩ := a1 h; rw [stat_len] at q1; exact ⟨j, q1, q2⟩) h0 (fun h => by obtain ⟨j, q1, q2, -⟩ := b1 h; exact ⟨j, by simpa using q1, q2⟩) h
  refine ⟨e1, ?_, e2⟩
  rcases e3 with ⟨hs, e3⟩ | ⟨hs, hd, e3⟩
  · obtain ⟨j, q1, q2, q3⟩ := a1 hs
    rw [e3, show s.toNat - 1 = j from by omega]; exact q3
  · obtain ⟨j, q1, q2, q3⟩ := b1 hd
    rw [e3, show d.toNat - 1 = j from by omega]; exact q3
theorem find_ub (x y : List UInt8) (l : List Fd) (hl : l.length ≤ 1000000) : 0 ≤ (findE x y l).1 ∧ (findE x y l).1 ≤ 2000000 ∧ 0 ≤ (findE x y l).2 ∧ (findE x y l).2 ≤ 2000000 := by
  have h1 := fnd_le x y statL 1 (by omega)
  have h2 := fnd_le x y l.reverse 1 (by omega)
  rw [List.length_reverse] at h2
  rw [stat_len] at h1
  unfold findE mix; dsimp only
  refine ⟨?_, ?_, ?_, ?_⟩ <;> split <;> omega
theorem dKnown_put {s : Rd} {x y more : List UInt8} (ho : s.owed = false) (hn : NevL s.l) (hl : s.l.length ≤ 1000000) (h : (findE x y s.l).1 > 0) (hb : s.b = numB 7 128 (findE x y s.l).1 ++ more) : dKnown s = (0, (x, y, false), more) := by
  have hu := find_ub x y s.l hl
  obtain ⟨h1, -⟩ := dNum_put (b := 7) (f := 128) (n := (findE x y s.l).1) (by omega) (by omega) (by omega) (by omega) (by omega) (by omega) (by decide) more
  rw [← hb] at h1
  rw [dKnown_ok h1 ho, ent1 x y hn h]
theorem dNamed_put {b f : Int} {s : Rd} {x : Fd} {more : List UInt8} (hbf : b = 6 ∧ f = 64 ∨ b = 4 ∧ f = 16) (ho : s.owed = false) (hn : NevL s.l) (hl : s.l.length ≤ 1000000) (hx : x.1.length ≤ 65536 ∧ x.2.1.length ≤ 65536) (hb : s.b = litB b f (findE x.1 x.2.1 s.l).2 x ++ more) : dNamed b s = (0, (x.1, x.2.1, false), more) := by
  have hu := find_ub x.1 x.2.1 s.l hl
  have he := ent2 x.1 x.2.1 hn
  unfold litB at hb
  generalize (findE x.1 x.2.1 s.l).2 = n at *
  rw [List.append_assoc, List.append_assoc] at hb
  obtain ⟨h1, -⟩ := dNum_put (b := b) (f := f) (n := n) (by omega) (by omega) (by omega) (by omega) (by omega) (by omega) (by rcases hbf with ⟨rfl, rfl⟩ | ⟨rfl, rfl⟩ <;> decide) ((if n = 0 then textB x.1 else []) ++ (textB x.2.1 ++ more))
  rw [← hb] at h1
  by_cases hc : n > 0
  · obtain ⟨q1, q2, q3⟩ := he hc
    rw [if_neg (show ¬ n = 0 by omega)] at h1
    have h2 : dName n s.l ([] ++ (textB x.2.1 ++ more)) = (0, (dEnt n s.l).1, textB x.2.1 ++ more) := by unfold dName; rw [if_pos hc, q1]; rfl
    rw [dNamed_ok h1 ho h2 (dText_put _ _ hx.2), q2, q3]
  · rw [if_pos (show n = 0 by omega)] at h1
    have h2 : dName n s.l (textB x.1 ++ (textB x.2.1 ++ more)) = (0, (x.1, [], false), textB x.2.1 ++ more) := by unfold dName; rw [if_neg hc, dText_put _ _ hx.1]
    rw [dNamed_ok h1 ho h2 (dText_put _ _ hx.2)]
end Go.Proofs.Ytmpeofjfagdgkaa
