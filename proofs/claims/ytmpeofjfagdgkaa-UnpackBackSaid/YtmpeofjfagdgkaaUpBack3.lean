/- unpack reads what pack wrote: blocks as a whole, plainly. -/
import Derived.Test.YtmpeofjfagdgkaaUpBack2
import Derived.Test.YtmpeofjfagdgkaaUpDec
set_option linter.unusedSimpArgs false
set_option linter.unusedVariables false
namespace Go.Proofs.Ytmpeofjfagdgkaa
open Go.Abs
set_option maxRecDepth 100000
theorem tells_snoc (most : Int) (s : Rd) (fs : List Fd) (x : Fd) : tells most s (fs ++ [x]) = dTell most (tells most s fs) x := by unfold tells; rw [List.foldl_append]; rfl
theorem tells_same (most : Int) : ∀ (fs : List Fd) (s : Rd), (tells most s fs).l = s.l ∧ (tells most s fs).max = s.max ∧ (tells most s fs).lim = s.lim ∧ (tells most s fs).owed = s.owed
  | [], s => ⟨rfl, rfl, rfl, rfl⟩
  | x :: r, s => tells_same most r (dTell most s x)
/-- What is told of a list: a front, as long as may be. -/
theorem told (most : Int) (s : Rd) (h1 : s.size = 0) (h2 : s.out = []) (h3 : s.over = false) (hm : 0 ≤ most) : ∀ (n : Nat) (fs : List Fd), fs.length = n → szs fs ≤ 1000000 → (tells most s fs).size = szs fs ∧
    ∃ k, k ≤ fs.length ∧ (tells most s fs).out = fs.take k ∧ (tells most s fs).over = decide (k < fs.length) ∧ szs (fs.take k) ≤ most ∧ (k < fs.length → szs (fs.take (k + 1)) > most)
  | 0, fs, hn, hz => by
    have : fs = [] := List.length_eq_zero_iff.1 hn
    subst this
    exact ⟨h1, 0, by simp, h2, h3, by simpa [szs] using hm, by simp⟩
  | n + 1, fs, hn, hz => by
    have hne : fs ≠ [] := by intro h; rw [h] at hn; simp at hn
    obtain ⟨a, x, rfl⟩ : ∃ a x, fs = a ++ [x] := ⟨fs.dropLast, fs.getLast hne, (List.dropLast_concat_getLast hne).symm⟩
    have hla : a.length = n := by simpa using hn
    have hza : szs (a ++ [x]) = szs a + sz1 x := by rw [szs_app]; simp [szs]
    have hx : 0 ≤ sz1 x := by unfold sz1; omega
    have hna := szs_nn a
    obtain ⟨i1, k, i2, i3, i4, i5, i6⟩ := told most s h1 h2 h3 hm n a hla (by omega)
    have hW1 : W (szs [x]) = sz1 x := by rw [show szs [x] = sz1 x by simp [szs]]; exact W_in (by omega) (by omega)
    have hW : W ((tells most s a).size + W (szs [x])) = szs (a ++ [x]) := by rw [hW1, i1, hza]; exact W_in (by omega) (by omega)
    rw [tells_snoc]
    have hla2 : (a ++ [x]).length = a.length + 1 := by simp
    unfold dTell
    simp only
    rw [hW]
    refine ⟨rfl, ?_⟩
    by_cases ho : (tells most s a).over = true
    · have hk : k < a.length := by rw [i4] at ho; exact of_decide_eq_true ho
      refine ⟨k, by omega, ?_, ?_, ?_, ?_⟩
      · rw [ho, Bool.true_or, if_pos rfl, i3, List.take_append_of_le_length (by omega)]
      · rw [ho, Bool.true_or]; exact (decide_eq_true (by omega)).symm
      · rw [List.take_append_of_le_length (by omega)]; exact i5
      · intro _
        rw [List.take_append_of_le_length (by omega)]; exact i6 hk
    · have hof : (tells most s a).over = false := by cases h : (tells most s a).over <;> simp_all
      have hk : k = a.length := by
        rw [hof] at i4
        have := of_decide_eq_false i4.symm
        omega
      subst hk
      rw [List.take_length] at i3 i5
      rw [hof, Bool.false_or, i3]
      by_cases hc : szs (a ++ [x]) > most
      · refine ⟨a.length, by omega, ?_, ?_, ?_, ?_⟩
        · rw [if_pos (decide_eq_true hc)]; simp
        · rw [decide_eq_true hc]; exact (decide_eq_true (by omega)).symm
        · simpa using i5
        · intro _
          rw [List.take_of_length_le (by omega)]; exact hc
      · refine ⟨a.length + 1, by omega, ?_, ?_, ?_, ?_⟩
        · rw [if_neg (by rw [decide_eq_true_eq]; exact hc), List.take_of_length_le (by omega)]
        · rw [decide_eq_false hc]; exact (decide_eq_false (by omega)).symm
        · rw [List.take_of_length_le (by omega)]; omega
        · omega
/- bytes -/
theorem textB_le (s : List UInt8) : (textB s).length ≤ s.length + 6 := by
  unfold textB
  split
  · simp
  · split
    · rename_i h1 h2
      have h3 := putB_len2 s
      have h4 := numB_len 7 128 ((bitsLen s + 7) / 8)
      rw [List.length_append]; omega
    · have h4 := numB_len 7 0 s.length
      rw [List.length_append]; omega
theorem litB_le (b f n : Int) (x : Fd) : ((litB b f n x).length : Int) ≤ sz1 x := by
  have h1 := numB_len b f n
  have h2 := textB_le x.1
  have h3 := textB_le x.2.1
  unfold litB sz1
  rw [List.length_append, List.length_append]
  split
  · push_cast; omega
  · rw [List.length_nil]; push_cast; omega
theorem fldB_le (s : En) (x : Fd) : ((fldB s x).length : Int) ≤ sz1 x := by
  unfold fldB
  split
  · exact litB_le _ _ _ _
  · split
    · have := numB_len 7 128 (findE x.1 x.2.1 s.l).1
      unfold sz1; omega
    · exact litB_le _ _ _ _
theorem bodyB_le : ∀ (fs : List Fd) (s : En), ((bodyB s fs).length : Int) ≤ szs fs
  | [], s => by simp [bodyB, szs]
  | x :: r, s => by
    have h1 := bodyB_le r (fldS s x)
    have h2 := fldB_le s x
    simp only [bodyB, List.length_append, szs]; push_cast; omega
theorem preB_le (s : En) : (preB s).length ≤ 12 := by
  have lB1 : (up1B s).length ≤ 6 := by unfold up1B; split; exact numB_len _ _ _; simp
  have lB2 : (up2B (up1S s)).length ≤ 6 := by unfold up2B; split; exact numB_len _ _ _; simp
  unfold preB; rw [List.length_append]; omega
theorem blkB_le (s : En) (fs : List Fd) : (blkB s fs).length ≤ 50000 := by
  unfold blkB
  split
  · rename_i hE
    have h1 := bodyB_le fs (preS s)
    have h2 := (blk_few hE).2.1
    have h3 := preB_le s
    rw [List.length_append]; omega
  · simp
theorem pre_facts (e : En) : (preS e).known = e.last ∧ (preS e).least = e.last ∧ (preS e).last = e.last := ⟨(pre_known e).1, rfl, (pre_known e).2⟩
theorem nev_pre {e : En} (h : NevL e.l) : NevL (preS e).l := by
  have h1 : NevL (up1S e).l := by unfold up1S; split; exact nev_shr h; exact h
  show NevL (up2S (up1S e)).l
  unfold up2S; split; exact nev_shr h1; exact h1
/-- A block that was written is read. -/
theorem blk_back {most : Int} {e : En} {s : Rd} (P : Pair2 e s) (fs : List Fd) (hE : blkE fs = 0) (hl : e.l.length ≤ 900000) (hm : 0 ≤ most) :
    (dBlk most (rd0 s (blkB e fs))).1 = 0 ∧ Pair2 (blkS e fs) (dBlk most (rd0 s (blkB e fs))).2 ∧ ∃ k, k ≤ fs.length ∧ (dBlk most (rd0 s (blkB e fs))).2.out = fs.take k ∧ (dBlk most (rd0 s (blkB e fs))).2.over = decide (k < fs.length) ∧ szs (fs.take k) ≤ most ∧ (k < fs.length → szs (fs.take (k + 1)) > most) := by
  have hB : blkB e fs = preB e ++ bodyB (preS e) fs := by unfold blkB; rw [if_pos hE]
  have hS : blkS e fs = bodyS (preS e) fs := by unfold blkS; rw [if_pos hE]
  obtain ⟨b1, b2, b3⟩ := blk_few hE
  have P0 : Pair2 e (rd0 s (blkB e fs)) := ⟨P.ok, P.l, P.m, P.lt, P.la, P.ow, P.nv⟩
  obtain ⟨n', u, h1, h2⟩ := loop_pre (most := most) P0 (more := bodyB (preS e) fs) (n := (rd0 s (blkB e fs)).b.length) hB rfl rfl (Nat.le_refl _)
  have hpl := preS_len e
  have h3 := loop_body most fs { (rd0 s (blkB e fs)) with b := bodyB (preS e) fs, u := u, owed := false, l := (preS e).l, max := (preS e).known } (preS e) n' rfl rfl rfl (nev_pre P.nv) (by omega) b3 rfl h1
  rw [h3] at h2
  have hR := dBlk_of h2
  obtain ⟨t1, t2, t3, t4⟩ := tells_same most fs { ({ (rd0 s (blkB e fs)) with b := bodyB (preS e) fs, u := u, owed := false, l := (preS e).l, max := (preS e).known } : Rd) with b := [], l := (bodyS (preS e) fs).l }
  obtain ⟨-, ht⟩ := told most { ({ (rd0 s (blkB e fs)) with b := bodyB (preS e) fs, u := u, owed := false, l := (preS e).l, max := (preS e).known } : Rd) with b := [], l := (bodyS (preS e) fs).l } rfl rfl rfl hm fs.length fs rfl (by omega)
  generalize tells most _ fs = T at *
  rw [if_neg (by simp only; rw [t4]; simp)] at hR
  rw [hR]
  obtain ⟨p1, p2, p3⟩ := pre_facts e
  obtain ⟨f1, f2, f3⟩ := bodyS_facts fs (preS e)
  have hok := blkS_ok fs P.ok
  refine ⟨rfl, ?_, ht⟩
  rw [hS] at hok ⊢
  refine ⟨hok, t1, ?_, ?_, ?_, ?_, nev_body fs (nev_pre P.nv)⟩
  · show T.max = _
    rw [t2, f1]
  · rw [f2, f3, p2, p3]; exact Int.le_refl _
  · show _ ≤ T.lim
    rw [t3, f3, p3]; exact P.la
  · intro h
    have h : T.owed = true := h
    rw [t4] at h; cases h
theorem pair0 : Pair2 en0 rdN := ⟨en0_ok, rfl, rfl, by decide, by decide, fun h => (by cases h), fun x hx => (by cases hx)⟩
/-- Both are told a limit. -/
theorem Pair2.lim {e : En} {s : Rd} (P : Pair2 e s) {m : Int} (h0 : 0 ≤ m) (h1 : m ≤ 65536) : Pair2 (limS e m) (dLimS s m) := by
  have hok := limS_ok m P.ok
  obtain ⟨-, hl, hm, hlt, hla, how, hnv⟩ := P
  have e1 : limS e m = { e with last := mn m 4096, least := mn e.least (mn m 4096) } := by unfold limS; rw [if_neg (by omega)]
  have e2 : dLimS s m = { s with lim := m, owed := s.owed || decide (s.max > m) } := by unfold dLimS; rw [if_neg (by omega)]
  have m1 : mn m 4096 ≤ m := by unfold mn; split <;> omega
  have m2 : mn e.least (mn m 4096) ≤ mn m 4096 ∧ mn e.least (mn m 4096) ≤ e.least := by
    generalize mn m 4096 = q; unfold mn; split <;> omega
  rw [e1] at hok ⊢
  rw [e2]
  refine ⟨hok, hl, hm, m2.1, m1, ?_, hnv⟩
  intro h
  show mn e.least (mn m 4096) < e.known
  have h : (s.owed || decide (s.max > m)) = true := h
  rw [Bool.or_eq_true, decide_eq_true_eq] at h
  rcases h with h | h
  · have := how h; omega
  · omega
end Go.Proofs.Ytmpeofjfagdgkaa
