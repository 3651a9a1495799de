/- pack: Block, of the code. -/
import Derived.Test.YtmpeofjfagdgkaaPkEnc2
set_option linter.unusedSimpArgs false
set_option linter.unusedVariables false
namespace Go.Proofs.Ytmpeofjfagdgkaa
open Go.Abs
open Int renaming reduceEq → i_0, reduceLE → i_1, reduceLT → i_2, reduceNe → i_3, reduceNeg → i_4, reduceAdd → i_5, reduceSub → i_6, reduceMul → i_7, reduceToNat → i_8
open Nat renaming reduceLT → n_0, reduceLeDiff → n_1, reduceEqDiff → n_2, reduceAdd → n_3, reduceSub → n_4, reduceMul → n_5
set_option maxRecDepth 100000
def fldB (s : En) (x : Fd) : List UInt8 := if x.2.2 = true then litB 4 16 (findE x.1 x.2.1 s.l).2 x else if (findE x.1 x.2.1 s.l).1 > 0 then numB 7 128 (findE x.1 x.2.1 s.l).1 else litB 6 64 (findE x.1 x.2.1 s.l).2 x
def fldS (s : En) (x : Fd) : En := if x.2.2 = true then s else if (findE x.1 x.2.1 s.l).1 > 0 then s else { s with l := addL s.known x.1 x.2.1 s.l }
def bodyS (s : En) (l : List Fd) : En := l.foldl fldS s
def bodyB : En → List Fd → List UInt8
  | _, [] => []
  | s, x :: r => fldB s x ++ bodyB (fldS s x) r
theorem bodyS_snoc (s : En) (l : List Fd) (x : Fd) : bodyS s (l ++ [x]) = fldS (bodyS s l) x := by unfold bodyS; rw [List.foldl_append]; rfl
theorem bodyB_snoc : ∀ (l : List Fd) (s : En) (x : Fd), bodyB s (l ++ [x]) = bodyB s l ++ fldB (bodyS s l) x
  | [], s, x => by simp [bodyB, bodyS]
  | y :: l, s, x => by
    simp only [List.cons_append, bodyB]
    rw [bodyB_snoc l, List.append_assoc]; rfl
def up1S (s : En) : En := if s.least < s.known then updS s s.least else s
def up1B (s : En) : List UInt8 := if s.least < s.known then numB 5 32 s.least else []
def up2S (s : En) : En := if ¬ s.last = s.known then updS s s.last else s
def up2B (s : En) : List UInt8 := if ¬ s.last = s.known then numB 5 32 s.last else []
def preS (s : En) : En := { up2S (up1S s) with least := s.last }
def preB (s : En) : List UInt8 := up1B s ++ up2B (up1S s)
theorem pre_known (s : En) : (up2S (up1S s)).known = s.last ∧ (up2S (up1S s)).last = s.last := by
  have h1 : (up1S s).last = s.last := by unfold up1S; split <;> rfl
  unfold up2S
  split
  · exact ⟨h1, h1⟩
  · rename_i h
    have := Classical.not_not.1 h
    rw [← this]; exact ⟨h1, h1⟩
theorem up_len (s : En) : (up2S (up1S s)).l.length ≤ s.l.length := by
  have h1 : (up1S s).l.length ≤ s.l.length := by unfold up1S; split; exact shr_len _ _; exact Nat.le_refl _
  have h2 : (up2S (up1S s)).l.length ≤ (up1S s).l.length := by unfold up2S; split; exact shr_len _ _; exact Nat.le_refl _
  omega
def tooLong (x : Fd) : Bool := decide (65536 < x.1.length) || decide (65536 < x.2.1.length)
def blkE (fs : List Fd) : Int := if fs.any tooLong = true then 5 else if szs fs > 32768 then 2 else 0
def blkS (s : En) (fs : List Fd) : En := if blkE fs = 0 then bodyS (preS s) fs else s
def blkB (s : En) (fs : List Fd) : List UInt8 := if blkE fs = 0 then preB s ++ bodyB (preS s) fs else []
structure EnOk (s : En) : Prop where
  k : 0 ≤ s.known ∧ s.known ≤ 4096
  e : 0 ≤ s.least ∧ s.least ≤ 4096
  t : 0 ≤ s.last ∧ s.last ≤ 4096
theorem szs_nn : ∀ l, 32 * (List.length l : Int) ≤ szs l
  | [] => by simp [szs]
  | x :: r => by
    have := szs_nn r
    simp only [szs, sz1, List.length_cons]; omega
theorem szs_up : ∀ l : List Fd, (∀ x ∈ l, tooLong x = false) → szs l ≤ 131104 * (List.length l : Int)
  | [], _ => by simp [szs]
  | x :: r, h => by
    have := szs_up r fun y hy => h y (List.mem_cons_of_mem _ hy)
    have hx := h x List.mem_cons_self
    simp only [tooLong, Bool.or_eq_false_iff, decide_eq_false_iff_not] at hx
    simp only [szs, sz1, List.length_cons]; omega
theorem addL_len {M : Int} {x y : List UInt8} {l : List Fd} : (addL M x y l).length ≤ l.length + 1 := by
  have h2 := shr_len (W (M - W (sz1 (x, y, false)))) l
  unfold addL
  split
  · rw [List.length_append]; simp only [List.length_cons, List.length_nil]; omega
  · omega
theorem fldS_facts (s : En) (x : Fd) : (fldS s x).l.length ≤ s.l.length + 1 ∧ (fldS s x).known = s.known ∧ (fldS s x).least = s.least ∧ (fldS s x).last = s.last := by
  unfold fldS
  split
  · exact ⟨by omega, rfl, rfl, rfl⟩
  · split
    · exact ⟨by omega, rfl, rfl, rfl⟩
    · exact ⟨addL_len, rfl, rfl, rfl⟩
theorem fldB_len (s : En) (x : Fd) : (fldB s x).length ≤ 900000 := by
  unfold fldB
  split
  · exact litB_len _ _ _ _
  · split
    · have := numB_len 7 128 (findE x.1 x.2.1 s.l).1; omega
    · exact litB_len _ _ _ _
theorem bodyS_len : ∀ (l : List Fd) (s : En), (bodyS s l).l.length ≤ s.l.length + l.length
  | [], s => Nat.le_refl _
  | x :: r, s => by
    have h1 := bodyS_len r (fldS s x)
    have h2 := (fldS_facts s x).1
    have : bodyS s (x :: r) = bodyS (fldS s x) r := rfl
    rw [this, List.length_cons]; omega
theorem bodyB_len : ∀ (l : List Fd) (s : En), (bodyB s l).length ≤ 900000 * l.length
  | [], s => by simp [bodyB]
  | x :: r, s => by
    have h1 := bodyB_len r (fldS s x)
    have h2 := fldB_len s x
    simp only [bodyB, List.length_append, List.length_cons]; omega
theorem fldS_t (s : En) (x y : List UInt8) : fldS s (x, y, true) = s := if_pos rfl
theorem fldB_t (s : En) (x y : List UInt8) : fldB s (x, y, true) = litB 4 16 (findE x y s.l).2 (x, y, true) := if_pos rfl
theorem fldS_f1 (s : En) (x y : List UInt8) (h : (findE x y s.l).1 > 0) : fldS s (x, y, false) = s := by unfold fldS; rw [if_neg (by exact Bool.false_ne_true), if_pos h]
theorem fldB_f1 (s : En) (x y : List UInt8) (h : (findE x y s.l).1 > 0) : fldB s (x, y, false) = numB 7 128 (findE x y s.l).1 := by unfold fldB; rw [if_neg (by exact Bool.false_ne_true), if_pos h]
theorem fldS_f0 (s : En) (x y : List UInt8) (h : ¬ (findE x y s.l).1 > 0) : fldS s (x, y, false) = { s with l := addL s.known x y s.l } := by unfold fldS; rw [if_neg (by exact Bool.false_ne_true), if_neg h]
theorem fldB_f0 (s : En) (x y : List UInt8) (h : ¬ (findE x y s.l).1 > 0) : fldB s (x, y, false) = litB 6 64 (findE x y s.l).2 (x, y, false) := by unfold fldB; rw [if_neg (by exact Bool.false_ne_true), if_neg h]
/-- An index for a slice that is not that of the list. -/
theorem idx_new {h h' : AH} {b0 i i' j : Nat} {v : AV} {l : List UInt8} (o : Ow E8 h j v l) (hj : b0 ≤ j) (hji : ¬ j = i) (hi' : i' = i ∨ h.size ≤ i') (hz : h.size ≤ h'.size) (hb : b0 ≤ h.size) (hf : j < h.size → h'.get j = h.get j) : ∃ j', b0 ≤ j' ∧ ¬ j' = i' ∧ Ow E8 h' j' v l := by
  by_cases hjs : j < h.size
  · exact ⟨j, hj, by omega, o.frame (fun _ => hf hjs) hz⟩
  · exact ⟨h'.size + i' + 1, by omega, by omega, ow_re o hjs _ _⟩
set_option maxHeartbeats 8000000 in
theorem blockG (e p i ia : Nat) (a : AV) (s : En) (fs : List Fd) (h0 : AH) (hg : ∀ h, h0.size + min 1 fs.length ≤ h.size → Keeps h0.size h0 h → EnC h e p i s) (hes : e < h0.size) (hps : p < h0.size) (hep : ¬ e = p) (hei : ¬ e = i) (ok : EnOk s) (hl : s.l.length ≤ 900000) (hfs : fs.length ≤ 3600000000000)
    (ha : ∀ h, h0.size ≤ h.size → (∀ b, b < h0.size → ¬ b = e → ¬ b = p → ¬ b = i → h.get b = h0.get b) → Sl EF h ia a fs) :
    callW Try.prog Try.T 20 [.ptr (some (e, 0)), a] h0 fun v h' => ∃ b i' j, v = .tuple [b, .int .i64 (blkE fs)] ∧ (i' = i ∨ h0.size ≤ i') ∧ EnC h' e p i' (blkS s fs) ∧ h0.size ≤ j ∧ ¬ j = i' ∧ Ow E8 h' j b (blkB s fs) ∧ But3 e p i h0 h' := by
  refine callW_hide fun KK hKK => ?_
  have ha0 := ha h0 (Nat.le_refl _) (fun _ _ _ _ _ => rfl)
  refine callW_in (n := 114) (rs := [.tmp 4, .tmp 5]) (m := 114) Try.func20 rfl rfl rfl rfl fun tr ht => ?_; have e0 := ht 0 _ rfl; have e1 := ht 1 _ rfl; clear ht
  repeat' (first
      | with_reducible first | refine Nx.h ?_ | (refine hK _ _ ?_; clear hK K)
      | ((with_reducible refine q_eo ?_ ?_); exact rfl)
      | ((with_reducible first | (refine Ny.h ?_; intro K hK) | (refine c_drw (by decide +kernel) ?_; intro K hK) | refine c_cond ?_ | show endW _ _ _ _ _ | (refine Nz.h ?_ ?_ <;> intro _) | fail) <;> try simp (disch := first | exact dz | fail) only [go_sem, i_0, i_1, i_2, i_3, i_4, i_5, i_6, i_7, i_8, n_0, n_1, n_2, n_3, n_4, n_5, reduceCtorEq, reduceIte, e0, e1]))
  refine c_loopF 4294836400 (fun m tm h => ∃ (k : Nat), tm.get 17 = .int .i64 k ∧ k ≤ fs.length ∧ (fs.take k).any tooLong = false ∧ Keeps h0.size h0 h ∧ h0.size + k ≤ h.size ∧ m = fs.length - k) (fs.length) (by kernel_rfl) ?_ ?_
  · refine ⟨0, ?_, by omega, rfl, Keeps.refl _ _, Nat.le_refl _, rfl⟩
    (first | with_reducible rfl | (simp (disch := first | exact dz | fail) only [go_sem, i_0, i_1, i_2, i_3, i_4, i_5, i_6, i_7, i_8, n_0, n_1, n_2, n_3, n_4, n_5, reduceCtorEq, reduceIte] <;> first | with_reducible rfl | (congr 1 <;> omega)))
  · rintro m tr2 h2 ho ⟨k, t17, hk, hany, kp, zk, rfl⟩
    have k0 := ho 0 (Seen.of rfl); simp (disch := first | exact dz | fail) only [go_sem, i_0, i_1, i_2, i_3, i_4, i_5, i_6, i_7, i_8, n_0, n_1, n_2, n_3, n_4, n_5, reduceCtorEq, reduceIte, e0, e1] at k0; have k1 := ho 1 (Seen.of rfl); simp (disch := first | exact dz | fail) only [go_sem, i_0, i_1, i_2, i_3, i_4, i_5, i_6, i_7, i_8, n_0, n_1, n_2, n_3, n_4, n_5, reduceCtorEq, reduceIte, e0, e1] at k1; have k15 := ho 15 (Seen.of rfl); simp (disch := first | exact dz | fail) only [go_sem, i_0, i_1, i_2, i_3, i_4, i_5, i_6, i_7, i_8, n_0, n_1, n_2, n_3, n_4, n_5, reduceCtorEq, reduceIte, e0, e1] at k15; have k16 := ho 16 (Seen.of rfl); simp (disch := first | exact dz | fail) only [go_sem, i_0, i_1, i_2, i_3, i_4, i_5, i_6, i_7, i_8, n_0, n_1, n_2, n_3, n_4, n_5, reduceCtorEq, reduceIte, e0, e1] at k16
    have z2 := kp.1
    have s2 := ha h2 kp.1 (fun b hb _ _ _ => kp.2 b hb)
    by_cases hc : k < fs.length
    · rcases hx : fs[k]! with ⟨x1, x2, x3⟩
      have hbx := bang_some hc
      rw [hx] at hbx
      have htk : fs.take (k + 1) = fs.take k ++ [(x1, x2, x3)] := by rw [List.take_add_one, hbx]; rfl
      have bad : tooLong (x1, x2, x3) = true → ∀ h', Keeps h0.size h0 h' → h0.size + 1 ≤ h'.size → KK (.tuple [.slice none 0 0 0 true, .int .i64 5]) h' := fun hb h' k' zz => by
        have hA : fs.any tooLong = true := List.any_eq_true.2 ⟨_, List.mem_of_getElem? hbx, hb⟩
        have hE : blkE fs = 5 := if_pos hA
        refine hKK _ _ ⟨_, i, h0.size + i + 1, by rw [hE], .inl rfl, ?_, by omega, by omega, ?_, ⟨k'.1, fun b hb _ _ _ => k'.2 b hb⟩⟩
        · unfold blkS; rw [hE, if_neg (by decide)]; exact hg h' (by omega) k'
        · unfold blkB; rw [hE, if_neg (by decide)]; exact .nil0 _ _
      have kn : ∀ o, Keeps h0.size h0 ((h2.push o).set h2.size (.cells [.str x1, .str x2, .bool x3])) := fun o => (kp.push z2 _).set z2 _
      have zn : ∀ o, h0.size + (k + 1) ≤ ((h2.push o).set h2.size (.cells [.str x1, .str x2, .bool x3])).size := fun o => by simp; omega
      by_cases c1 : 65536 < x1.length
      · repeat' (first
      | with_reducible first | refine Nx.h ?_ | (refine hK _ _ ?_; clear hK K)
      | ((with_reducible refine q_eo ?_ ?_); exact rfl)
      | ((with_reducible first | (refine Ny.h ?_; intro K hK) | (refine c_drw (by decide +kernel) ?_; intro K hK) | refine c_cond ?_ | show endW _ _ _ _ _ | (refine Nz.h ?_ ?_ <;> intro _) | fail) <;> try simp (disch := first | exact dz | fail) only [go_sem, i_0, i_1, i_2, i_3, i_4, i_5, i_6, i_7, i_8, n_0, n_1, n_2, n_3, n_4, n_5, reduceCtorEq, reduceIte, k0, k1, k15, k16, t17, hx, EFf]))
        exact bad (by simp [tooLong, c1]) _ (kn _) (Nat.le_trans (by omega) (zn _))
      · by_cases c2 : 65536 < x2.length
        · repeat' (first
      | with_reducible first | refine Nx.h ?_ | (refine hK _ _ ?_; clear hK K)
      | ((with_reducible refine q_eo ?_ ?_); exact rfl)
      | ((with_reducible first | (refine Ny.h ?_; intro K hK) | (refine c_drw (by decide +kernel) ?_; intro K hK) | refine c_cond ?_ | show endW _ _ _ _ _ | (refine Nz.h ?_ ?_ <;> intro _) | fail) <;> try simp (disch := first | exact dz | fail) only [go_sem, i_0, i_1, i_2, i_3, i_4, i_5, i_6, i_7, i_8, n_0, n_1, n_2, n_3, n_4, n_5, reduceCtorEq, reduceIte, k0, k1, k15, k16, t17, hx, EFf]))
          exact bad (by simp [tooLong, c2]) _ (kn _) (Nat.le_trans (by omega) (zn _))
        · repeat' (first
      | with_reducible first | refine Nx.h ?_ | (refine hK _ _ ?_; clear hK K)
      | ((with_reducible refine q_eo ?_ ?_); exact rfl)
      | ((with_reducible first | (refine Ny.h ?_; intro K hK) | (refine c_drw (by decide +kernel) ?_; intro K hK) | refine c_cond ?_ | show endW _ _ _ _ _ | (refine Nz.h ?_ ?_ <;> intro _) | fail) <;> try simp (disch := first | exact dz | fail) only [go_sem, i_0, i_1, i_2, i_3, i_4, i_5, i_6, i_7, i_8, n_0, n_1, n_2, n_3, n_4, n_5, reduceCtorEq, reduceIte, k0, k1, k15, k16, t17, hx, EFf]))
          try dsimp only
          refine ⟨rfl, fs.length - (k + 1), by omega, k + 1, ?_, by omega, ?_, kn _, zn _, rfl⟩
          · (first | with_reducible rfl | (simp (disch := first | exact dz | fail) only [go_sem, i_0, i_1, i_2, i_3, i_4, i_5, i_6, i_7, i_8, n_0, n_1, n_2, n_3, n_4, n_5, reduceCtorEq, reduceIte, t17] <;> first | with_reducible rfl | (congr 1 <;> omega)))
          · rw [htk, List.any_append, hany]; simp [tooLong]; omega
    · have hke : k = fs.length := by omega
      subst hke
      rw [List.take_length] at hany
      have hsz := szs_up fs (fun x hx => by
        cases ht : tooLong x with
        | false => rfl
        | true => rw [List.any_eq_true.2 ⟨x, hx, ht⟩] at hany; cases hany)
      have hsn := szs_nn fs
      have hW : W (szs fs) = szs fs := W_in (by omega) (by omega)
      repeat' (first
      | with_reducible first | refine Nx.h ?_ | (refine hK _ _ ?_; clear hK K)
      | ((with_reducible refine q_eo ?_ ?_); exact rfl)
      | ((with_reducible first | (refine Ny.h ?_; intro K hK) | (refine c_drw (by decide +kernel) ?_; intro K hK) | refine c_cond ?_ | show endW _ _ _ _ _ | (refine Nz.h ?_ ?_ <;> intro _) | fail) <;> try simp (disch := first | exact dz | fail) only [go_sem, i_0, i_1, i_2, i_3, i_4, i_5, i_6, i_7, i_8, n_0, n_1, n_2, n_3, n_4, n_5, reduceCtorEq, reduceIte, k0, k1, k15, k16, t17]))
      refine callM_of (fieldSize a ia fs h2 s2 (by omega)) ?_
      rintro v h3 ⟨rfl, k3⟩
      rw [hW]
      have kp3 : Keeps h0.size h0 h3 := ⟨by have := k3.1; omega, fun b hb => by rw [k3.2 b (by omega), kp.2 b hb]⟩
      have z3 := kp3.1
      have hg3 := hg h3 (by have := k3.1; omega) kp3
      have his : i < h3.size := by obtain ⟨_, ⟨_, t⟩, _, _, _⟩ := hg3; exact t.is
      by_cases c1 : szs fs > 32768
      · have hE : blkE fs = 2 := by unfold blkE; rw [hany, if_neg (by decide), if_pos c1]
        refine vI ?_; repeat' (first
      | with_reducible first | refine Nx.h ?_ | (refine hK _ _ ?_; clear hK K)
      | ((with_reducible refine q_eo ?_ ?_); exact rfl)
      | ((with_reducible first | refine vO ?_ | (refine Ny.h ?_; intro K hK) | (refine c_drw (by decide +kernel) ?_; intro K hK) | refine c_cond ?_ | show endW _ _ _ _ _ | (refine Nz.h ?_ ?_ <;> intro _) | fail) <;> try simp (disch := first | exact dz | fail) only [go_sem, i_0, i_1, i_2, i_3, i_4, i_5, i_6, i_7, i_8, n_0, n_1, n_2, n_3, n_4, n_5, reduceCtorEq, reduceIte, k0, k1, k15, k16]))
        refine hKK _ _ ⟨_, i, h0.size + i + 1, by rw [hE], .inl rfl, ?_, by omega, by omega, ?_, ⟨kp3.1, fun b hb _ _ _ => kp3.2 b hb⟩⟩
        · unfold blkS; rw [hE, if_neg (by decide)]; exact hg3
        · unfold blkB; rw [hE, if_neg (by decide)]; exact .nil0 _ _
      · have hE : blkE fs = 0 := by unfold blkE; rw [hany, if_neg (by decide), if_neg c1]
        have hbS : blkS s fs = bodyS (preS s) fs := if_pos hE
        have hbB : blkB s fs = preB s ++ bodyB (preS s) fs := if_pos hE
        rw [hE, hbS, hbB] at hKK
        have hfl : fs.length ≤ 1024 := by omega
        try clear hE hbS hbB hsz hsn hW kp k3
        have he3 := hg3
        obtain ⟨ok1, ok2, ok3⟩ := ok
        have g3 := he3.g
        obtain ⟨pk1, pk2⟩ := pre_known s
        have mk : ∀ (hC : AH) (sC : En), EnC hC e p i sC → sC = up2S (up1S s) → EnC (hC.set e (.cells [.ptr (some (p, 0)), .int .i64 sC.known, .int .i64 sC.known, .int .i64 sC.last])) e p i (preS s) ∧ h0.size ≤ h0.size := fun hC sC hC1 e1 => by
          subst e1
          obtain ⟨g, ⟨a', ta⟩, es, ep, ei⟩ := hC1
          refine ⟨⟨?_, ⟨a', ta.frame (by rw [AH.get_set, if_neg (fun h => ep h.symm)]) (by rw [AH.get_set, if_neg (fun h => ei h.symm)]) (by simp)⟩, by simpa using es, ep, ei⟩, Nat.le_refl _⟩
          rw [AH.get_set, if_pos rfl]
          unfold preS
          simp only [pk1, pk2]
        have lp : (preS s).l.length ≤ 900000 := by
          have := up_len s
          show (up2S (up1S s)).l.length ≤ _
          omega
        have lB1 : (up1B s).length ≤ 6 := by unfold up1B; split; exact numB_len _ _ _; simp
        have lB2 : (up2B (up1S s)).length ≤ 6 := by unfold up2B; split; exact numB_len _ _ _; simp
        have lB : (preB s).length ≤ 12 := by unfold preB; rw [List.length_append]; omega
        have ok1S : 0 ≤ (up1S s).last ∧ (up1S s).last ≤ 4096 ∧ (up1S s).l.length ≤ 900000 := by
          unfold up1S; split
          · exact ⟨ok3.1, ok3.2, by have := shr_len s.least s.l; show (shr s.least s.l).length ≤ _; omega⟩
          · exact ⟨ok3.1, ok3.2, hl⟩
        by_cases u1 : s.least < s.known
        all_goals first
          | (have eS1 : up1S s = updS s s.least := if_pos u1
             have eB1 : up1B s = numB 5 32 s.least := if_pos u1
             refine vI ?_; repeat' (first
      | with_reducible first | refine Nx.h ?_ | (refine hK _ _ ?_; clear hK K)
      | ((with_reducible refine q_eo ?_ ?_); exact rfl)
      | ((with_reducible first | refine vO ?_ | (refine Ny.h ?_; intro K hK) | (refine c_drw (by decide +kernel) ?_; intro K hK) | refine c_cond ?_ | show endW _ _ _ _ _ | (refine Nz.h ?_ ?_ <;> intro _) | fail) <;> try simp (disch := first | exact dz | fail) only [go_sem, i_0, i_1, i_2, i_3, i_4, i_5, i_6, i_7, i_8, n_0, n_1, n_2, n_3, n_4, n_5, reduceCtorEq, reduceIte, k0, k1, k15, k16, g3]))
             refine callM_of (update e p i s s.least (.slice none 0 0 0 true) (h0.size + i + 1) [] h3 he3 (by omega) (by omega) (.nil0 _ _) (by simp) (by omega)) ?_
             rintro vA hA ⟨heA, jA, oA, hjA, zA, fA⟩
             rw [List.nil_append, ← eB1] at oA
             rw [← eS1] at heA
             have bA : But3 e p i h0 hA := ⟨by omega, fun x hx q1 q2 q3 => by rw [fA x (by omega) (by omega) q1 q2 q3, kp3.2 x hx]⟩
             have jA0 : h0.size ≤ jA ∧ ¬ jA = i := by omega
             have his : i < hA.size := by omega
             try clear fA eS1 eB1 g3 he3 kp3 s2 hjA zA)
          | (have eS1 : up1S s = s := if_neg u1
             have eB1 : up1B s = [] := if_neg u1
             have heA : EnC h3 e p i (up1S s) := by rw [eS1]; exact he3
             obtain ⟨jA, hjA⟩ : ∃ jA, jA = h0.size + i + 1 := ⟨_, rfl⟩
             have oA : Ow E8 h3 jA (.slice none 0 0 0 true) (up1B s) := by rw [eB1]; exact .nil0 _ _
             have bA : But3 e p i h0 h3 := ⟨z3, fun x hx _ _ _ => kp3.2 x hx⟩
             have jA0 : h0.size ≤ jA ∧ ¬ jA = i := by omega
             rw [← eS1] at u1
             try clear eS1 eB1 g3 he3 kp3 s2 hjA
             generalize h3 = hA at *)
        all_goals
          have gA := heA.g
          obtain ⟨jA0, jA1⟩ := jA0
          have zA := bA.1
          have fA := bA.2
          by_cases u2 : ¬ (up1S s).last = (up1S s).known
        all_goals first
          | (have eS2 : up2S (up1S s) = updS (up1S s) (up1S s).last := if_pos u2
             have eB2 : up2B (up1S s) = numB 5 32 (up1S s).last := if_pos u2
             refine vI ?_; repeat' (first
      | with_reducible first | refine Nx.h ?_ | (refine hK _ _ ?_; clear hK K)
      | ((with_reducible refine q_eo ?_ ?_); exact rfl)
      | ((with_reducible first | refine vO ?_ | (refine Ny.h ?_; intro K hK) | (refine c_drw (by decide +kernel) ?_; intro K hK) | refine c_cond ?_ | show endW _ _ _ _ _ | (refine Nz.h ?_ ?_ <;> intro _) | fail) <;> try simp (disch := first | exact dz | fail) only [go_sem, i_0, i_1, i_2, i_3, i_4, i_5, i_6, i_7, i_8, n_0, n_1, n_2, n_3, n_4, n_5, reduceCtorEq, reduceIte, k0, k1, k15, k16, gA]))
             refine callM_of (update e p i (up1S s) (up1S s).last _ jA _ hA heA (by omega) (by omega) oA (by omega) (by omega)) ?_
             rintro vC hC ⟨heC, jC, oC, hjC, zC, fC⟩
             rw [← eB2] at oC
             rw [← eS2] at heC
             have gC := heC.g
             refine vI ?_; repeat' (first
      | with_reducible first | refine Nx.h ?_ | (refine hK _ _ ?_; clear hK K)
      | ((with_reducible refine q_eo ?_ ?_); exact rfl)
      | ((with_reducible first | refine vO ?_ | (refine Ny.h ?_; intro K hK) | (refine c_drw (by decide +kernel) ?_; intro K hK) | refine c_cond ?_ | show endW _ _ _ _ _ | (refine Nz.h ?_ ?_ <;> intro _) | fail) <;> try simp (disch := first | exact dz | fail) only [go_sem, i_0, i_1, i_2, i_3, i_4, i_5, i_6, i_7, i_8, n_0, n_1, n_2, n_3, n_4, n_5, reduceCtorEq, reduceIte, k0, k1, k15, k16, gC]))
             refine c_hide fun hD hhD => ?_
             obtain ⟨heD, -⟩ := mk hC _ heC rfl
             have oD : Ow E8 hD jC vC (preB s) := oC.frame (fun _ => by rw [hhD, AH.get_set, if_neg (by omega)]) (by rw [hhD]; simp)
             have bD : But3 e p i h0 hD := ⟨by rw [hhD, AH.size_set]; omega, fun x hx q1 q2 q3 => by rw [hhD, AH.get_set, if_neg q1, fC x (by omega) (by omega) q1 q2 q3, fA x hx q1 q2 q3]⟩
             have jD0 : h0.size ≤ jC ∧ ¬ jC = i := by omega
             rw [← hhD] at heD
             clear hhD heC gC oC fC heA gA oA fA bA eS2 eB2 hjC mk)
          | (have eS2 : up1S s = up2S (up1S s) := (if_neg u2).symm
             have eB2 : up2B (up1S s) = [] := if_neg u2
             refine vI ?_; repeat' (first
      | with_reducible first | refine Nx.h ?_ | (refine hK _ _ ?_; clear hK K)
      | ((with_reducible refine q_eo ?_ ?_); exact rfl)
      | ((with_reducible first | refine vO ?_ | (refine Ny.h ?_; intro K hK) | (refine c_drw (by decide +kernel) ?_; intro K hK) | refine c_cond ?_ | show endW _ _ _ _ _ | (refine Nz.h ?_ ?_ <;> intro _) | fail) <;> try simp (disch := first | exact dz | fail) only [go_sem, i_0, i_1, i_2, i_3, i_4, i_5, i_6, i_7, i_8, n_0, n_1, n_2, n_3, n_4, n_5, reduceCtorEq, reduceIte, k0, k1, k15, k16, gA]))
             refine c_hide fun hD hhD => ?_
             obtain ⟨heD, -⟩ := mk hA _ heA eS2
             have oD := oA.frame (h' := hD) (fun _ => by rw [hhD, AH.get_set, if_neg (by omega)]) (by rw [hhD]; simp)
             have ePB : preB s = up1B s := by unfold preB; rw [eB2, List.append_nil]
             rw [← ePB] at oD
             have bD : But3 e p i h0 hD := ⟨by rw [hhD, AH.size_set]; omega, fun x hx q1 q2 q3 => by rw [hhD, AH.get_set, if_neg q1, fA x hx q1 q2 q3]⟩
             have jD0 : h0.size ≤ jA ∧ ¬ jA = i := by omega
             rw [← hhD] at heD
             clear hhD heA gA oA fA bA eS2 eB2 mk)
        all_goals
          obtain ⟨jD0, jD1⟩ := jD0
          refine codeW_base fun tr3 ho3 => ?_
          have q0 := ho3 0 (Seen.of rfl); simp (disch := first | exact dz | fail) only [go_sem, i_0, i_1, i_2, i_3, i_4, i_5, i_6, i_7, i_8, n_0, n_1, n_2, n_3, n_4, n_5, reduceCtorEq, reduceIte, k0, k1] at q0; have q1 := ho3 1 (Seen.of rfl); simp (disch := first | exact dz | fail) only [go_sem, i_0, i_1, i_2, i_3, i_4, i_5, i_6, i_7, i_8, n_0, n_1, n_2, n_3, n_4, n_5, reduceCtorEq, reduceIte, k0, k1] at q1; have q8 := ho3 8 (Seen.of rfl); simp (disch := first | exact dz | fail) only [go_sem, i_0, i_1, i_2, i_3, i_4, i_5, i_6, i_7, i_8, n_0, n_1, n_2, n_3, n_4, n_5, reduceCtorEq, reduceIte, k0, k1] at q8; have q74 := ho3 74 (Seen.of rfl); simp (disch := first | exact dz | fail) only [go_sem, i_0, i_1, i_2, i_3, i_4, i_5, i_6, i_7, i_8, n_0, n_1, n_2, n_3, n_4, n_5, reduceCtorEq, reduceIte, k0, k1] at q74; have q75 := ho3 75 (Seen.of rfl); simp (disch := first | exact dz | fail) only [go_sem, i_0, i_1, i_2, i_3, i_4, i_5, i_6, i_7, i_8, n_0, n_1, n_2, n_3, n_4, n_5, reduceCtorEq, reduceIte, k0, k1] at q75; have q76 := ho3 76 (Seen.of rfl); simp (disch := first | exact dz | fail) only [go_sem, i_0, i_1, i_2, i_3, i_4, i_5, i_6, i_7, i_8, n_0, n_1, n_2, n_3, n_4, n_5, reduceCtorEq, reduceIte, k0, k1] at q76
          refine c_loopF 10384593716994097393335078335028480 (fun m tm h => ∃ (k j i' : Nat) (v : AV), tm.get 76 = .int .i64 k ∧ tm.get 8 = v ∧ k ≤ fs.length ∧ EnC h e p i' (bodyS (preS s) (fs.take k)) ∧ Ow E8 h j v (preB s ++ bodyB (preS s) (fs.take k)) ∧ h0.size ≤ j ∧ ¬ j = i' ∧ (i' = i ∨ h0.size ≤ i') ∧ But3 e p i h0 h ∧ m = fs.length - k) (fs.length) (by kernel_rfl) ?_ ?_
          · have e0B : preB s = preB s ++ bodyB (preS s) (fs.take 0) := by rw [List.take_zero]; exact (List.append_nil _).symm
            rw [e0B] at oD
            refine ⟨0, _, i, _, ?_, ?_, by omega, heD, oD, jD0, jD1, .inl rfl, bD, rfl⟩
            · (first | with_reducible rfl | (simp (disch := first | exact dz | fail) only [go_sem, i_0, i_1, i_2, i_3, i_4, i_5, i_6, i_7, i_8, n_0, n_1, n_2, n_3, n_4, n_5, reduceCtorEq, reduceIte, q76] <;> first | with_reducible rfl | (congr 1 <;> omega)))
            · (first | with_reducible rfl | (simp (disch := first | exact dz | fail) only [go_sem, i_0, i_1, i_2, i_3, i_4, i_5, i_6, i_7, i_8, n_0, n_1, n_2, n_3, n_4, n_5, reduceCtorEq, reduceIte, q8] <;> first | with_reducible rfl | (congr 1 <;> omega)))
          · clear heD oD bD q8 q76 jD0 jD1
            rintro m tr4 h4 ho4 ⟨k, j, i', v, t76, t8, hk', he4, o4, hj4, hji4, hi4, b4, rfl⟩
            have r0 := ho4 0 (Seen.of rfl); simp (disch := first | exact dz | fail) only [go_sem, i_0, i_1, i_2, i_3, i_4, i_5, i_6, i_7, i_8, n_0, n_1, n_2, n_3, n_4, n_5, reduceCtorEq, reduceIte, q0, q1, q74, q75] at r0; have r1 := ho4 1 (Seen.of rfl); simp (disch := first | exact dz | fail) only [go_sem, i_0, i_1, i_2, i_3, i_4, i_5, i_6, i_7, i_8, n_0, n_1, n_2, n_3, n_4, n_5, reduceCtorEq, reduceIte, q0, q1, q74, q75] at r1; have r74 := ho4 74 (Seen.of rfl); simp (disch := first | exact dz | fail) only [go_sem, i_0, i_1, i_2, i_3, i_4, i_5, i_6, i_7, i_8, n_0, n_1, n_2, n_3, n_4, n_5, reduceCtorEq, reduceIte, q0, q1, q74, q75] at r74; have r75 := ho4 75 (Seen.of rfl); simp (disch := first | exact dz | fail) only [go_sem, i_0, i_1, i_2, i_3, i_4, i_5, i_6, i_7, i_8, n_0, n_1, n_2, n_3, n_4, n_5, reduceCtorEq, reduceIte, q0, q1, q74, q75] at r75
            by_cases hc2 : k < fs.length
            · have z4 := b4.1
              have s4 := ha h4 b4.1 b4.2
              rcases hx : fs[k]! with ⟨x1, x2, x3⟩
              have hbx := bang_some hc2
              rw [hx] at hbx
              have htk : fs.take (k + 1) = fs.take k ++ [(x1, x2, x3)] := by rw [List.take_add_one, hbx]; rfl
              have hS : bodyS (preS s) (fs.take (k + 1)) = fldS (bodyS (preS s) (fs.take k)) (x1, x2, x3) := by rw [htk, bodyS_snoc]
              have hB : preB s ++ bodyB (preS s) (fs.take (k + 1)) = preB s ++ bodyB (preS s) (fs.take k) ++ fldB (bodyS (preS s) (fs.take k)) (x1, x2, x3) := by rw [htk, bodyB_snoc, List.append_assoc]
              have ll := bodyS_len (fs.take k) (preS s)
              have lb := bodyB_len (fs.take k) (preS s)
              have ltk : (fs.take k).length ≤ 1024 := by rw [List.length_take]; omega
              have lbb : (preB s ++ bodyB (preS s) (fs.take k)).length ≤ 1000000000 := by rw [List.length_append]; omega
              have lls : (bodyS (preS s) (fs.take k)).l.length ≤ 1000000 := by omega
              clear ll lb ltk hbx htk
              generalize bodyS (preS s) (fs.take k) = σ at *
              generalize preB s ++ bodyB (preS s) (fs.take k) = bs at *
              repeat' (first
      | with_reducible first | refine Nx.h ?_ | (refine hK _ _ ?_; clear hK K)
      | ((with_reducible refine q_eo ?_ ?_); exact rfl)
      | ((with_reducible first | (refine Ny.h ?_; intro K hK) | (refine c_drw (by decide +kernel) ?_; intro K hK) | refine c_cond ?_ | show endW _ _ _ _ _ | (refine Nz.h ?_ ?_ <;> intro _) | fail) <;> try simp (disch := first | exact dz | fail) only [go_sem, i_0, i_1, i_2, i_3, i_4, i_5, i_6, i_7, i_8, n_0, n_1, n_2, n_3, n_4, n_5, reduceCtorEq, reduceIte, r0, r1, r74, r75, t76, t8, hx, EFf]))
              refine cM_hide fun h5 hh5 => ?_
              have k5 : Keeps h4.size h4 h5 := by rw [hh5]; exact ((Keeps.refl _ _).push (Nat.le_refl _) _).set (Nat.le_refl _) _
              have z5 : h5.size = h4.size + 1 := by rw [hh5]; simp (disch := first | exact dz | fail) only [go_sem, i_0, i_1, i_2, i_3, i_4, i_5, i_6, i_7, i_8, n_0, n_1, n_2, n_3, n_4, n_5, reduceCtorEq, reduceIte]
              have bx5 : h5.get h4.size = some (.cells [.str x1, .str x2, .bool x3]) := by rw [hh5]; simp (disch := first | exact dz | fail) only [go_sem, i_0, i_1, i_2, i_3, i_4, i_5, i_6, i_7, i_8, n_0, n_1, n_2, n_3, n_4, n_5, reduceCtorEq, reduceIte]
              clear hh5
              have he5 := he4.frame (h' := h5) (fun b hb _ => k5.2 b hb) k5.1
              refine callM_of (efind e p i' σ (x1, x2, x3) h5 he5 lls) ?_
              rintro w h6 ⟨rfl, k6⟩
              have z6 := k6.1
              have bx6 := (k6.2 _ (by omega)).trans bx5
              have he6 := he5.frame (h' := h6) (fun b hb _ => k6.2 b hb) k6.1
              obtain ⟨j6, hj60, hj6i, hj6x, o6⟩ : ∃ j6, h0.size ≤ j6 ∧ ¬ j6 = i' ∧ ¬ j6 = h4.size ∧ Ow E8 h6 j6 v bs := by
                by_cases hjs : j < h4.size
                · exact ⟨j, hj4, hji4, by omega, o4.frame (fun _ => by rw [k6.2 j (by omega), k5.2 j hjs]) (by omega)⟩
                · exact ⟨h6.size + i' + h4.size + 1, by omega, by omega, by omega, ow_re o4 hjs _ _⟩
              have f06 : ∀ b, b < h0.size → ¬ b = e → ¬ b = p → ¬ b = i → h6.get b = h0.get b := fun b hb q1 q2 q3 => by rw [k6.2 b (by omega), k5.2 b (by omega), b4.2 b hb q1 q2 q3]
              have z06 : h0.size ≤ h6.size := by omega
              have h4s : h4.size < h6.size := by omega
              have i6 : i' < h6.size := by obtain ⟨_, ⟨_, t⟩, _, _, _⟩ := he6; exact t.is
              have hlu : σ.l.length ≤ 1000000 := lls
              clear he5 he4 o4 k5 k6 b4 bx5 z5 z6
              have fin : ∀ (h7 : AH) (v7 : AV) (j7 : Nat) (l7 : List UInt8), Ow E8 h7 j7 v7 l7 → (j7 = j6 ∨ h6.size ≤ j7) → h6.size ≤ h7.size → (∀ b, b < h6.size → ¬ b = j6 → h7.get b = h6.get b) → EnC h7 e p i' σ ∧ h7.get h4.size = some (.cells [.str x1, .str x2, .bool x3]) ∧ But3 e p i h0 h7 ∧ h0.size ≤ j7 ∧ ¬ j7 = i' := fun h7 v7 j7 l7 o7 hj7 z7 f7 =>
                ⟨he6.frame (fun b hb hor => f7 b hb (by omega)) z7, (f7 _ h4s (by omega)).trans bx6, ⟨by omega, fun b hb q1 q2 q3 => by rw [f7 b (by omega) (by omega), f06 b hb q1 q2 q3]⟩, by omega, by omega⟩
              simp only
              cases x3
              · by_cases hf : (findE x1 x2 σ.l).1 > 0
                · rw [fldS_f1 _ _ _ hf] at hS
                  rw [fldB_f1 _ _ _ hf] at hB
                  generalize (findE x1 x2 σ.l).1 = f1 at *
                  generalize (findE x1 x2 σ.l).2 = f2 at *
                  refine vI ?_; repeat' (first
      | with_reducible first | refine Nx.h ?_ | (refine hK _ _ ?_; clear hK K)
      | ((with_reducible refine q_eo ?_ ?_); exact rfl)
      | ((with_reducible first | refine vO ?_ | (refine Ny.h ?_; intro K hK) | (refine c_drw (by decide +kernel) ?_; intro K hK) | refine c_cond ?_ | show endW _ _ _ _ _ | (refine Nz.h ?_ ?_ <;> intro _) | fail) <;> try simp (disch := first | exact dz | fail) only [go_sem, i_0, i_1, i_2, i_3, i_4, i_5, i_6, i_7, i_8, n_0, n_1, n_2, n_3, n_4, n_5, reduceCtorEq, reduceIte, r0, r1, r74, r75, t76, t8, bx6]))
                  refine callM_of (number v j6 bs 7 128 f1 h6 o6 (by omega)) ?_
                  rintro w h7 ⟨j7, o7, hj7, z7, f7⟩
                  obtain ⟨e7, -, b7, j70, j7i⟩ := fin h7 _ j7 _ o7 hj7 z7 f7
                  refine vI ?_; repeat' (first
      | with_reducible first | refine Nx.h ?_ | (refine hK _ _ ?_; clear hK K)
      | ((with_reducible refine q_eo ?_ ?_); exact rfl)
      | ((with_reducible first | refine vO ?_ | (refine Ny.h ?_; intro K hK) | (refine c_drw (by decide +kernel) ?_; intro K hK) | refine c_cond ?_ | show endW _ _ _ _ _ | (refine Nz.h ?_ ?_ <;> intro _) | fail) <;> try simp (disch := first | exact dz | fail) only [go_sem, i_0, i_1, i_2, i_3, i_4, i_5, i_6, i_7, i_8, n_0, n_1, n_2, n_3, n_4, n_5, reduceCtorEq, reduceIte, r0, r1, r74, r75, t76, t8]))
                  refine ⟨rfl, fs.length - (k + 1), by omega, k + 1, j7, i', _, ?_, ?_, by omega, by rw [hS]; exact e7, by rw [hB]; exact o7, j70, j7i, hi4, b7, rfl⟩
                  · (first | with_reducible rfl | (simp (disch := first | exact dz | fail) only [go_sem, i_0, i_1, i_2, i_3, i_4, i_5, i_6, i_7, i_8, n_0, n_1, n_2, n_3, n_4, n_5, reduceCtorEq, reduceIte, t76] <;> first | with_reducible rfl | (congr 1 <;> omega)))
                  · (first | with_reducible rfl | (simp (disch := first | exact dz | fail) only [go_sem, i_0, i_1, i_2, i_3, i_4, i_5, i_6, i_7, i_8, n_0, n_1, n_2, n_3, n_4, n_5, reduceCtorEq, reduceIte] <;> first | with_reducible rfl | (congr 1 <;> omega)))
                · rw [fldS_f0 _ _ _ hf] at hS
                  rw [fldB_f0 _ _ _ hf] at hB
                  generalize (findE x1 x2 σ.l).1 = f1 at *
                  generalize (findE x1 x2 σ.l).2 = f2 at *
                  refine vI ?_; repeat' (first
      | with_reducible first | refine Nx.h ?_ | (refine hK _ _ ?_; clear hK K)
      | ((with_reducible refine q_eo ?_ ?_); exact rfl)
      | ((with_reducible first | refine vO ?_ | (refine Ny.h ?_; intro K hK) | (refine c_drw (by decide +kernel) ?_; intro K hK) | refine c_cond ?_ | show endW _ _ _ _ _ | (refine Nz.h ?_ ?_ <;> intro _) | fail) <;> try simp (disch := first | exact dz | fail) only [go_sem, i_0, i_1, i_2, i_3, i_4, i_5, i_6, i_7, i_8, n_0, n_1, n_2, n_3, n_4, n_5, reduceCtorEq, reduceIte, r0, r1, r74, r75, t76, t8, bx6]))
                  refine callM_of (literal v j6 bs 6 64 f2 (x1, x2, false) h6 o6 (by omega)) ?_
                  rintro w h7 ⟨j7, o7, hj7, z7, f7⟩
                  obtain ⟨e7, bx7, b7, j70, j7i⟩ := fin h7 _ j7 _ o7 hj7 z7 f7
                  clear fin
                  obtain ⟨g7, ⟨a7, ta7⟩, es7, ep7, ei7⟩ := e7
                  have ps7 := ta7.ps
                  have is7 := ta7.is
                  refine vI ?_; repeat' (first
      | with_reducible first | refine Nx.h ?_ | (refine hK _ _ ?_; clear hK K)
      | ((with_reducible refine q_eo ?_ ?_); exact rfl)
      | ((with_reducible first | refine vO ?_ | (refine Ny.h ?_; intro K hK) | (refine c_drw (by decide +kernel) ?_; intro K hK) | refine c_cond ?_ | show endW _ _ _ _ _ | (refine Nz.h ?_ ?_ <;> intro _) | fail) <;> try simp (disch := first | exact dz | fail) only [go_sem, i_0, i_1, i_2, i_3, i_4, i_5, i_6, i_7, i_8, n_0, n_1, n_2, n_3, n_4, n_5, reduceCtorEq, reduceIte, r0, r1, r74, r75, t76, t8, bx7, g7]))
                  refine callM_of (tAdd p i' σ.l σ.known x1 x2 a7 h7 ta7 hlu) ?_
                  rintro w8 h8 ⟨b8, a8, i8, ta8, hi8⟩
                  have z8 := b8.1
                  obtain ⟨j8, hj80, hj8i, o8⟩ := idx_new (b0 := h0.size) (i' := i8) o7 j70 j7i hi8 z8 (by omega) (fun hs => b8.2 j7 hs (by omega) j7i)
                  have f7 := b7.2
                  have z7' := b7.1
                  clear b7 f06
                  refine vI ?_; repeat' (first
      | with_reducible first | refine Nx.h ?_ | (refine hK _ _ ?_; clear hK K)
      | ((with_reducible refine q_eo ?_ ?_); exact rfl)
      | ((with_reducible first | refine vO ?_ | (refine Ny.h ?_; intro K hK) | (refine c_drw (by decide +kernel) ?_; intro K hK) | refine c_cond ?_ | show endW _ _ _ _ _ | (refine Nz.h ?_ ?_ <;> intro _) | fail) <;> try simp (disch := first | exact dz | fail) only [go_sem, i_0, i_1, i_2, i_3, i_4, i_5, i_6, i_7, i_8, n_0, n_1, n_2, n_3, n_4, n_5, reduceCtorEq, reduceIte, r0, r1, r74, r75, t76, t8]))
                  refine ⟨rfl, fs.length - (k + 1), by omega, k + 1, j8, i8, _, ?_, ?_, by omega, by rw [hS]; exact ⟨(b8.2 e es7 ep7 ei7).trans g7, ⟨a8, ta8⟩, Nat.lt_of_lt_of_le es7 z8, ep7, by omega⟩, by rw [hB]; exact o8, hj80, hj8i, by omega, ⟨Nat.le_trans z7' z8, fun b hb q1 q2 q3 => by rw [b8.2 b (by omega) q2 (by omega), f7 b hb q1 q2 q3]⟩, rfl⟩
                  · (first | with_reducible rfl | (simp (disch := first | exact dz | fail) only [go_sem, i_0, i_1, i_2, i_3, i_4, i_5, i_6, i_7, i_8, n_0, n_1, n_2, n_3, n_4, n_5, reduceCtorEq, reduceIte, t76] <;> first | with_reducible rfl | (congr 1 <;> omega)))
                  · (first | with_reducible rfl | (simp (disch := first | exact dz | fail) only [go_sem, i_0, i_1, i_2, i_3, i_4, i_5, i_6, i_7, i_8, n_0, n_1, n_2, n_3, n_4, n_5, reduceCtorEq, reduceIte] <;> first | with_reducible rfl | (congr 1 <;> omega)))
              · rw [fldS_t] at hS
                rw [fldB_t] at hB
                generalize (findE x1 x2 σ.l).1 = f1 at *
                generalize (findE x1 x2 σ.l).2 = f2 at *
                refine vI ?_; repeat' (first
      | with_reducible first | refine Nx.h ?_ | (refine hK _ _ ?_; clear hK K)
      | ((with_reducible refine q_eo ?_ ?_); exact rfl)
      | ((with_reducible first | refine vO ?_ | (refine Ny.h ?_; intro K hK) | (refine c_drw (by decide +kernel) ?_; intro K hK) | refine c_cond ?_ | show endW _ _ _ _ _ | (refine Nz.h ?_ ?_ <;> intro _) | fail) <;> try simp (disch := first | exact dz | fail) only [go_sem, i_0, i_1, i_2, i_3, i_4, i_5, i_6, i_7, i_8, n_0, n_1, n_2, n_3, n_4, n_5, reduceCtorEq, reduceIte, r0, r1, r74, r75, t76, t8, bx6]))
                refine callM_of (literal v j6 bs 4 16 f2 (x1, x2, true) h6 o6 (by omega)) ?_
                rintro w h7 ⟨j7, o7, hj7, z7, f7⟩
                obtain ⟨e7, -, b7, j70, j7i⟩ := fin h7 _ j7 _ o7 hj7 z7 f7
                refine vI ?_; repeat' (first
      | with_reducible first | refine Nx.h ?_ | (refine hK _ _ ?_; clear hK K)
      | ((with_reducible refine q_eo ?_ ?_); exact rfl)
      | ((with_reducible first | refine vO ?_ | (refine Ny.h ?_; intro K hK) | (refine c_drw (by decide +kernel) ?_; intro K hK) | refine c_cond ?_ | show endW _ _ _ _ _ | (refine Nz.h ?_ ?_ <;> intro _) | fail) <;> try simp (disch := first | exact dz | fail) only [go_sem, i_0, i_1, i_2, i_3, i_4, i_5, i_6, i_7, i_8, n_0, n_1, n_2, n_3, n_4, n_5, reduceCtorEq, reduceIte, r0, r1, r74, r75, t76, t8]))
                refine ⟨rfl, fs.length - (k + 1), by omega, k + 1, j7, i', _, ?_, ?_, by omega, by rw [hS]; exact e7, by rw [hB]; exact o7, j70, j7i, hi4, b7, rfl⟩
                · (first | with_reducible rfl | (simp (disch := first | exact dz | fail) only [go_sem, i_0, i_1, i_2, i_3, i_4, i_5, i_6, i_7, i_8, n_0, n_1, n_2, n_3, n_4, n_5, reduceCtorEq, reduceIte, t76] <;> first | with_reducible rfl | (congr 1 <;> omega)))
                · (first | with_reducible rfl | (simp (disch := first | exact dz | fail) only [go_sem, i_0, i_1, i_2, i_3, i_4, i_5, i_6, i_7, i_8, n_0, n_1, n_2, n_3, n_4, n_5, reduceCtorEq, reduceIte] <;> first | with_reducible rfl | (congr 1 <;> omega)))
            · have hke : k = fs.length := by omega
              subst hke
              rw [List.take_length] at he4 o4
              repeat' (first
      | with_reducible first | refine Nx.h ?_ | (refine hK _ _ ?_; clear hK K)
      | ((with_reducible refine q_eo ?_ ?_); exact rfl)
      | ((with_reducible first | (refine Ny.h ?_; intro K hK) | (refine c_drw (by decide +kernel) ?_; intro K hK) | refine c_cond ?_ | show endW _ _ _ _ _ | (refine Nz.h ?_ ?_ <;> intro _) | fail) <;> try simp (disch := first | exact dz | fail) only [go_sem, i_0, i_1, i_2, i_3, i_4, i_5, i_6, i_7, i_8, n_0, n_1, n_2, n_3, n_4, n_5, reduceCtorEq, reduceIte, r0, r1, r74, r75, t76, t8]))
              exact hKK _ _ ⟨_, i', j, rfl, hi4, he4, hj4, hji4, o4, b4⟩
theorem block (e p i ia : Nat) (a : AV) (s : En) (fs : List Fd) (h0 : AH) (he : EnC h0 e p i s) (ok : EnOk s) (hl : s.l.length ≤ 900000) (hfs : fs.length ≤ 3600000000000)
    (ha : ∀ h, h0.size ≤ h.size → (∀ b, b < h0.size → ¬ b = e → ¬ b = p → ¬ b = i → h.get b = h0.get b) → Sl EF h ia a fs) :
    callW Try.prog Try.T 20 [.ptr (some (e, 0)), a] h0 fun v h' => ∃ b i' j, v = .tuple [b, .int .i64 (blkE fs)] ∧ (i' = i ∨ h0.size ≤ i') ∧ EnC h' e p i' (blkS s fs) ∧ h0.size ≤ j ∧ ¬ j = i' ∧ Ow E8 h' j b (blkB s fs) ∧ But3 e p i h0 h' := by
  obtain ⟨g, ⟨a', t⟩, es, ep, ei⟩ := he
  exact blockG e p i ia a s fs h0 (fun h hz k => EnC.frame ⟨g, ⟨a', t⟩, es, ep, ei⟩ (fun b hb _ => k.2 b hb) k.1) es t.ps ep ei ok hl hfs ha
end Go.Proofs.Ytmpeofjfagdgkaa
