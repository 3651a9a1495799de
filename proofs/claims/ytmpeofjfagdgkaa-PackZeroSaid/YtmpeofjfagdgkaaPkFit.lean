/- pack: what is in the table behind a block, plainly. -/
import Derived.Test.YtmpeofjfagdgkaaPkLaw
set_option linter.unusedSimpArgs false
set_option linter.unusedVariables false
namespace Go.Proofs.Ytmpeofjfagdgkaa
open Go.Abs
set_option maxRecDepth 100000
/-- As dat_fieldsZ, a little tighter. -/
theorem dat_fieldsT {n i : Nat} {v : AV} (hd : DatZ Try.T (n + 3) 28 [v]) : ∃ l, Sl EF AH.empty i v l ∧ l.length ≤ 3518437208780 := by
  obtain ⟨l, h1, _, h2⟩ := dat_sliceB (E := EF) (Wf := fun _ => True) (h := AH.empty) (i := i) Try.Td28 (fun c hc => by
    obtain ⟨v0, g0, d0⟩ := datB_f1 (b := true) (ft := 9) (off := 0) Try.Td45 hc (by simp) rfl (by decide)
    obtain ⟨v1, g1, d1⟩ := datB_f1 (b := true) (ft := 9) (off := 1) Try.Td45 hc (by simp) rfl (by decide)
    obtain ⟨v2, g2, d2⟩ := datB_f1 (b := true) (ft := 4) (off := 2) Try.Td45 hc (by simp) rfl (by decide)
    obtain ⟨x, rfl, _⟩ := datB_str rfl d0
    obtain ⟨y, rfl, _⟩ := datB_str rfl d1
    obtain ⟨z, rfl⟩ := datB_bool rfl d2
    exact ⟨(x, y, z), list_3 (dat_len Try.Td45 hc.dat) g0 g1 g2, trivial⟩) rfl hd
  refine ⟨l, h1, ?_⟩
  rcases h2 with rfl | ⟨c, h3, h4⟩
  · simp
  · have hb : (Try.T 45).bytes = 40 := rfl
    have hr : reachBytes = 140737488351232 := rfl
    rw [hb, hr] at h4
    omega
theorem fnd_nn (x y : List UInt8) (l : List Fd) (k : Int) (hk : 0 ≤ k) : 0 ≤ (fnd x y l k).1 := (fnd_le x y l k hk).1
theorem fnd_mem (x y : List UInt8) : ∀ (l : List Fd) (k : Int), 1 ≤ k → ((fnd x y l k).1 > 0 ↔ ∃ f ∈ l, f.1 = x ∧ f.2.1 = y)
  | [], k, hk => by simp [fnd]
  | f :: r, k, hk => by
    have ih := fnd_mem x y r (k + 1) (by omega)
    rw [fnd_cons]
    by_cases hc : f.1 = x ∧ f.2.1 = y
    · simp only [if_pos hc]
      exact ⟨fun _ => ⟨f, List.mem_cons_self, hc⟩, fun _ => by omega⟩
    · simp only [if_neg hc]
      rw [ih]
      constructor
      · rintro ⟨g, hg, h⟩; exact ⟨g, List.mem_cons_of_mem _ hg, h⟩
      · rintro ⟨g, hg, h⟩
        rcases List.mem_cons.1 hg with rfl | hg
        · exact absurd h hc
        · exact ⟨g, hg, h⟩
/-- A field that has a number. -/
def Fnd (s : En) (x : Fd) : Prop := (findE x.1 x.2.1 s.l).1 > 0
theorem fnd_iff (s : En) (x : Fd) : Fnd s x ↔ ((fnd x.1 x.2.1 statL 1).1 > 0 ∨ ∃ f ∈ s.l, f.1 = x.1 ∧ f.2.1 = x.2.1) := by
  have h1 := fnd_nn x.1 x.2.1 statL 1 (by omega)
  have h2 := fnd_mem x.1 x.2.1 s.l.reverse 1 (by omega)
  have h3 : (∃ f ∈ s.l.reverse, f.1 = x.1 ∧ f.2.1 = x.2.1) ↔ ∃ f ∈ s.l, f.1 = x.1 ∧ f.2.1 = x.2.1 := by simp only [List.mem_reverse]
  rw [← h3, ← h2]
  unfold Fnd findE mix
  dsimp only
  split
  · rename_i hc; omega
  · rename_i hc; omega
theorem Fnd.up {s : En} {x : Fd} (h : Fnd s x) {t : En} {m : List Fd} (ht : t.l = s.l ++ m) : Fnd t x := by
  rw [fnd_iff] at h ⊢
  rcases h with h | ⟨f, hf, h⟩
  · exact .inl h
  · exact .inr ⟨f, by rw [ht]; exact List.mem_append_left _ hf, h⟩
theorem szs_nn2 (l : List Fd) : 0 ≤ szs l := by have := szs_nn l; omega
/-- A block of fields that fits. -/
theorem fits : ∀ (fs : List Fd) (s : En), s.known = 4096 → szs s.l + szs fs ≤ 4096 → (∀ x ∈ fs, x.2.2 = false) → ∃ m, (bodyS s fs).l = s.l ++ m ∧ ∀ x ∈ fs, Fnd (bodyS s fs) x
  | [], s, _, _, _ => ⟨[], by simp [bodyS], by simp⟩
  | x :: r, s, hk, hz, hn => by
    obtain ⟨x1, x2, x3⟩ := x
    have hx : x3 = false := hn _ List.mem_cons_self
    subst hx
    have h1 := szs_nn2 s.l
    have h2 := szs_nn2 r
    simp only [szs] at hz
    have h3 : 0 ≤ sz1 (x1, x2, false) := by unfold sz1; omega
    by_cases hf : (findE x1 x2 s.l).1 > 0
    · have e1 := fldS_f1 s x1 x2 hf
      obtain ⟨m, e2, e3⟩ := fits r s hk (by omega) fun y hy => hn y (List.mem_cons_of_mem _ hy)
      have e4 : bodyS s ((x1, x2, false) :: r) = bodyS s r := by show bodyS (fldS s _) r = _; rw [e1]
      rw [e4]
      refine ⟨m, e2, fun y hy => ?_⟩
      rcases List.mem_cons.1 hy with rfl | hy
      · exact Fnd.up (show Fnd s (x1, x2, false) from hf) e2
      · exact e3 y hy
    · have e1 := fldS_f0 s x1 x2 hf
      have w1 : W (sz1 (x1, x2, false)) = sz1 (x1, x2, false) := W_in (by omega) (by omega)
      have w2 : W (4096 - sz1 (x1, x2, false)) = 4096 - sz1 (x1, x2, false) := W_in (by omega) (by omega)
      have w3 : W (szs s.l) = szs s.l := W_in (by omega) (by omega)
      have ea : addL s.known x1 x2 s.l = s.l ++ [(x1, x2, false)] := by
        unfold addL
        rw [hk, w1, w2, if_pos (by omega), shr_stop (by rw [w3]; omega)]
      rw [ea] at e1
      obtain ⟨m, e2, e3⟩ := fits r { s with l := s.l ++ [(x1, x2, false)] } hk (by rw [show (En.l { s with l := s.l ++ [(x1, x2, false)] }) = s.l ++ [(x1, x2, false)] from rfl, szs_app]; simp only [szs]; omega) fun y hy => hn y (List.mem_cons_of_mem _ hy)
      have e4 : bodyS s ((x1, x2, false) :: r) = bodyS { s with l := s.l ++ [(x1, x2, false)] } r := by show bodyS (fldS s _) r = _; rw [e1]
      rw [e4]
      refine ⟨(x1, x2, false) :: m, by rw [e2]; simp, fun y hy => ?_⟩
      rcases List.mem_cons.1 hy with rfl | hy
      · refine (fnd_iff _ _).2 (.inr ⟨(x1, x2, false), ?_, rfl, rfl⟩)
        rw [e2]; simp
      · exact e3 y hy
theorem num1 {n : Int} (h1 : 0 ≤ n) (h2 : n < 127) : numB 7 128 n = [UInt8.ofNat (128 + n).toNat] := by
  unfold numB putS
  have e : ((2 : Int) ^ (7 : Int).toNat) = 128 := by decide
  rw [e, if_neg (by omega), if_pos (by omega), show (128 + n) % 256 = 128 + n by omega]
/-- The second time. -/
theorem again : ∀ (fs : List Fd) (s : En), s.l.length ≤ 30 → (∀ x ∈ fs, x.2.2 = false ∧ Fnd s x) → bodyS s fs = s ∧ (bodyB s fs).length = fs.length ∧ ∀ c ∈ bodyB s fs, 128 ≤ c.toNat
  | [], s, _, _ => ⟨rfl, rfl, by simp [bodyB]⟩
  | x :: r, s, hl, hn => by
    obtain ⟨x1, x2, x3⟩ := x
    obtain ⟨hx, hf⟩ := hn _ List.mem_cons_self
    have hx : x3 = false := hx
    subst hx
    have hf : (findE x1 x2 s.l).1 > 0 := hf
    obtain ⟨i1, i2, i3⟩ := again r s hl fun y hy => hn y (List.mem_cons_of_mem _ hy)
    have e1 := fldS_f1 s x1 x2 hf
    have e2 := fldB_f1 s x1 x2 hf
    have h1 := fnd_le x1 x2 statL 1 (by omega)
    have h2 := fnd_le x1 x2 s.l.reverse 1 (by omega)
    rw [List.length_reverse] at h2
    rw [stat_len] at h1
    have hub : (findE x1 x2 s.l).1 < 127 := by
      unfold findE mix; dsimp only; split <;> omega
    rw [num1 (by omega) hub] at e2
    have e3 : bodyB s ((x1, x2, false) :: r) = UInt8.ofNat (128 + (findE x1 x2 s.l).1).toNat :: bodyB s r := by
      show fldB s _ ++ bodyB (fldS s _) r = _
      rw [e1, e2]; rfl
    refine ⟨?_, ?_, ?_⟩
    · show bodyS (fldS s _) r = _
      rw [e1]; exact i1
    · rw [e3, List.length_cons, i2, List.length_cons]
    · intro c hc
      rw [e3] at hc
      rcases List.mem_cons.1 hc with rfl | hc
      · have : (UInt8.ofNat (128 + (findE x1 x2 s.l).1).toNat).toNat = (128 + (findE x1 x2 s.l).1).toNat % 256 := by simp
        rw [this]; omega
      · exact i3 c hc
theorem szs_len : ∀ l : List Fd, 0 ≤ szs l := szs_nn2
theorem pre_eq {s : En} (h1 : s.least = s.known) (h2 : s.last = s.known) : preS s = s ∧ preB s = [] := by
  have a : up1S s = s := by unfold up1S; rw [if_neg (by omega)]
  have b : up2S s = s := by unfold up2S; rw [if_neg (by omega)]
  have c : up1B s = [] := by unfold up1B; rw [if_neg (by omega)]
  have d : up2B s = [] := by unfold up2B; rw [if_neg (by omega)]
  refine ⟨?_, ?_⟩
  · unfold preS; rw [a, b]
    cases s; simp only at h1 h2 ⊢; subst h1 h2; rfl
  · unfold preB; rw [a, c, d]; rfl
theorem blk0 (fs : List Fd) : (blkS en0 fs).known = 4096 ∧ (blkS en0 fs).least = 4096 ∧ (blkS en0 fs).last = 4096 := by
  unfold blkS
  split
  · obtain ⟨a, b, c⟩ := bodyS_facts fs (preS en0)
    have : preS en0 = en0 := (pre_eq rfl rfl).1
    rw [this] at a b c ⊢
    exact ⟨a, b, c⟩
  · exact ⟨rfl, rfl, rfl⟩
theorem szs_shr (lim : Int) : ∀ l, szs (shr lim l) ≤ szs l
  | [] => Int.le_refl _
  | x :: r => by
    have := szs_shr lim r
    have h : 0 ≤ sz1 x := by unfold sz1; omega
    rw [shr_cons]; split
    · simp only [szs]; omega
    · exact Int.le_refl _
theorem szs_fld (s : En) (x : Fd) : szs (fldS s x).l ≤ szs s.l + sz1 x := by
  have h : 0 ≤ sz1 x := by unfold sz1; omega
  unfold fldS
  split
  · omega
  · split
    · omega
    · have h2 := szs_shr (W (s.known - W (sz1 (x.1, x.2.1, false)))) s.l
      show szs (addL s.known x.1 x.2.1 s.l) ≤ _
      unfold addL
      split
      · rw [szs_app]; simp only [szs]
        have : sz1 (x.1, x.2.1, false) = sz1 x := rfl
        omega
      · omega
theorem szs_body : ∀ (fs : List Fd) (s : En), szs (bodyS s fs).l ≤ szs s.l + szs fs
  | [], s => by simp [bodyS, szs]
  | x :: r, s => by
    have h1 := szs_body r (fldS s x)
    have h2 := szs_fld s x
    have : bodyS s (x :: r) = bodyS (fldS s x) r := rfl
    rw [this]; simp only [szs]; omega
theorem shr_none : ∀ l : List Fd, szs l ≤ 1000000 → shr 0 l = []
  | [], _ => rfl
  | x :: r, h => by
    have h1 := szs_nn2 r
    have h2 : 32 ≤ sz1 x := by unfold sz1; omega
    simp only [szs] at h
    have w : W (szs (x :: r)) = szs (x :: r) := W_in (by simp only [szs]; omega) (by simp only [szs]; omega)
    rw [shr_cons, w, if_pos (by simp only [szs]; omega)]
    exact shr_none r (by omega)
/-- The encoder that keeps nothing. -/
def enZ : En := { l := [], known := 0, least := 0, last := 0 }
theorem fld_Z (x : Fd) (h : tooLong x = false) : fldS enZ x = enZ := by
  obtain ⟨x1, x2, x3⟩ := x
  simp only [tooLong, Bool.or_eq_false_iff, decide_eq_false_iff_not] at h
  cases x3 with
  | true => exact fldS_t _ _ _
  | false =>
    by_cases hf : (findE x1 x2 enZ.l).1 > 0
    · exact fldS_f1 _ _ _ hf
    · rw [fldS_f0 _ _ _ hf]
      have w1 : W (sz1 (x1, x2, false)) = sz1 (x1, x2, false) := W_in (by unfold sz1; omega) (by unfold sz1; simp only; omega)
      have : addL enZ.known x1 x2 enZ.l = [] := by
        show addL 0 x1 x2 [] = []
        unfold addL
        rw [w1, if_neg (by unfold sz1; omega)]; rfl
      rw [this]; rfl
theorem body_Z : ∀ fs : List Fd, fs.any tooLong = false → bodyS enZ fs = enZ
  | [], _ => rfl
  | x :: r, h => by
    rw [List.any_cons, Bool.or_eq_false_iff] at h
    show bodyS (fldS enZ x) r = _
    rw [fld_Z x h.1]; exact body_Z r h.2
theorem blkS_sz (fs : List Fd) : szs (blkS en0 fs).l ≤ 32768 := by
  unfold blkS
  split
  · rename_i hE
    have h := (blk_few hE).2.1
    rw [(pre_eq (s := en0) rfl rfl).1]
    have := szs_body fs en0
    simp only [en0, szs] at this ⊢
    omega
  · simp [en0, szs]
/-- Told a table of nothing. -/
theorem zero1 (fs : List Fd) : preS (limS (blkS en0 fs) 0) = enZ ∧ preB (limS (blkS en0 fs) 0) = [32] := by
  obtain ⟨k1, k2, k3⟩ := blk0 fs
  have hz := blkS_sz fs
  have hs := shr_none (blkS en0 fs).l (by omega)
  generalize hg : blkS en0 fs = s at *
  obtain ⟨l, kn, le, la⟩ := s
  simp only at k1 k2 k3 hs
  subst k1 k2 k3
  have e : limS { l := l, known := 4096, least := 4096, last := 4096 } 0 = { l := l, known := 4096, least := 0, last := 0 } := by
    unfold limS; rw [if_neg (by omega)]; rfl
  rw [e]
  have a : up1S { l := l, known := 4096, least := 0, last := 0 } = enZ := by
    unfold up1S updS; rw [if_pos (by show (0:Int) < 4096; omega)]; show En.mk (shr 0 l) 0 0 0 = _; rw [hs]; rfl
  have b : up1B { l := l, known := 4096, least := 0, last := 0 } = [32] := by
    unfold up1B; rw [if_pos (by show (0:Int) < 4096; omega)]; rfl
  have c : up2S enZ = enZ := by unfold up2S; rw [if_neg (by simp [enZ])]
  have d : up2B enZ = [] := by unfold up2B; rw [if_neg (by simp [enZ])]
  refine ⟨?_, ?_⟩
  · unfold preS; rw [a, c]; rfl
  · unfold preB; rw [a, b, d]; rfl
theorem zero2 (fs more : List Fd) (h : blkE more = 0) : blkS (limS (blkS en0 fs) 0) more = enZ ∧ blkB (limS (blkS en0 fs) 0) more = 32 :: bodyB enZ more ∧ blkB enZ more = bodyB enZ more ∧ blkS enZ more = enZ := by
  obtain ⟨a, b⟩ := zero1 fs
  obtain ⟨c, d⟩ := pre_eq (s := enZ) rfl rfl
  have hb := body_Z more (blk_few h).2.2
  unfold blkS blkB
  rw [if_pos h, if_pos h, if_pos h, if_pos h]
  unfold blkS at a b
  rw [a, b, c, d, hb]
  exact ⟨rfl, rfl, rfl, rfl⟩
theorem body_N : ∀ (fs : List Fd) (s : En), (∀ x ∈ fs, x.2.2 = true) → bodyS s fs = s
  | [], s, _ => rfl
  | x :: r, s, h => by
    obtain ⟨x1, x2, x3⟩ := x
    have hx : x3 = true := h _ List.mem_cons_self
    subst hx
    show bodyS (fldS s (x1, x2, true)) r = s
    rw [fldS_t]; exact body_N r s fun y hy => h y (List.mem_cons_of_mem _ hy)
theorem blk_N (fs l : List Fd) (h : ∀ x ∈ l, x.2.2 = true) : blkS (blkS en0 fs) l = blkS en0 fs := by
  obtain ⟨k1, k2, k3⟩ := blk0 fs
  generalize blkS en0 fs = s at *
  have hp := (pre_eq (s := s) (by omega) (by omega)).1
  unfold blkS
  split
  · rw [hp, body_N l s h]
  · rfl
theorem blk0_len (fs : List Fd) : (blkS en0 fs).l.length ≤ 1024 := by
  have h := blkS_len en0 fs
  have e : en0.l.length = 0 := rfl
  omega
end Go.Proofs.Ytmpeofjfagdgkaa
