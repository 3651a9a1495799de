/- pack: Block, of the reference. -/
import Derived.Test.YtmpeofjfagdgkaaPkBlock
set_option linter.unusedSimpArgs false
set_option linter.unusedVariables false
namespace Go.Proofs.Ytmpeofjfagdgkaa
open Go.Abs
open Int renaming reduceEq → i_0, reduceLE → i_1, reduceLT → i_2, reduceNe → i_3, reduceNeg → i_4, reduceAdd → i_5, reduceSub → i_6, reduceMul → i_7, reduceToNat → i_8
open Nat renaming reduceLT → n_0, reduceLeDiff → n_1, reduceEqDiff → n_2, reduceAdd → n_3, reduceSub → n_4, reduceMul → n_5
set_option maxRecDepth 100000
theorem But3.trans {e p i i1 : Nat} {h0 h1 h2 : AH} (a : But3 e p i h0 h1) (b : But3 e p i1 h1 h2) (hi : i1 = i ∨ h0.size ≤ i1) : But3 e p i h0 h2 :=
  ⟨Nat.le_trans a.1 b.1, fun x hx q1 q2 q3 => by rw [b.2 x (by have := a.1; omega) q1 q2 (by omega), a.2 x hx q1 q2 q3]⟩
theorem EnR.app {h0 h6 h7 : AH} {e p i i' j6 j7 : Nat} {s : En} (he6 : EnR h6 e p i' s) (hes : e < h0.size) (hps : p < h0.size) (b : But3 e p i h0 h6) (hi : i' = i ∨ h0.size ≤ i') (hj : h0.size ≤ j6) (hji : ¬ j6 = i') (hj7 : j7 = j6 ∨ h6.size ≤ j7) (z7 : h6.size ≤ h7.size) (f7 : ∀ b, b < h6.size → ¬ b = j6 → h7.get b = h6.get b) : EnR h7 e p i' s ∧ But3 e p i h0 h7 ∧ h0.size ≤ j7 ∧ ¬ j7 = i' := by
  have i6 : i' < h6.size := by obtain ⟨_, ⟨_, t⟩, _, _, _⟩ := he6; exact t.is
  have z6 := b.1
  exact ⟨he6.frame (fun b hb hor => f7 b hb (by omega)) z7, ⟨by omega, fun x hx q1 q2 q3 => by rw [f7 x (by omega) (by omega), b.2 x hx q1 q2 q3]⟩, by omega, by omega⟩
set_option maxHeartbeats 8000000 in
theorem rblock (e p i ia : Nat) (a : AV) (s : En) (fs : List Fd) (h0 : AH) (he : EnR h0 e p i s) (ok : EnOk s) (hl : s.l.length ≤ 900000) (hfs : fs.length ≤ 3600000000000)
    (ha : ∀ h, h0.size ≤ h.size → (∀ b, b < h0.size → ¬ b = e → ¬ b = p → ¬ b = i → h.get b = h0.get b) → Sl EF h ia a fs) :
    callW Try.prog Try.T 21 [.ptr (some (e, 0)), a] h0 fun v h' => ∃ b i' j, v = .tuple [b, .int .i64 (blkE fs)] ∧ (i' = i ∨ h0.size ≤ i') ∧ EnR h' e p i' (blkS s fs) ∧ h0.size ≤ j ∧ ¬ j = i' ∧ Ow E8 h' j b (blkB s fs) ∧ But3 e p i h0 h' := by
  refine callW_hide fun KK hKK => ?_
  have s2 := ha h0 (Nat.le_refl _) (fun _ _ _ _ _ => rfl)
  have hes := he.es
  have hep := he.ep
  have hei := he.ei
  have hps : p < h0.size := by obtain ⟨_, ⟨_, t⟩, _, _, _⟩ := he; exact t.ps
  have his : i < h0.size := by obtain ⟨_, ⟨_, t⟩, _, _, _⟩ := he; exact t.is
  refine callW_in (n := 142) (rs := [.tmp 4, .tmp 5]) (m := 142) Try.func21 rfl rfl rfl rfl fun tr ht => ?_; have e0 := ht 0 _ rfl; have e1 := ht 1 _ rfl; clear ht
  repeat' (first
      | with_reducible first | refine Nx.h ?_ | (refine hK _ _ ?_; clear hK K)
      | ((with_reducible refine q_eo ?_ ?_); exact rfl)
      | ((with_reducible first | (refine Ny.h ?_; intro K hK) | (refine c_drw (by decide +kernel) ?_; intro K hK) | refine c_cond ?_ | show endW _ _ _ _ _ | (refine Nz.h ?_ ?_ <;> intro _) | fail) <;> try simp (disch := first | exact dz | fail) only [go_sem, i_0, i_1, i_2, i_3, i_4, i_5, i_6, i_7, i_8, n_0, n_1, n_2, n_3, n_4, n_5, reduceCtorEq, reduceIte, e0, e1]))
  refine c_loopF 68719460464 (fun m tm h => ∃ (k : Nat), tm.get 6 = .int .i64 k ∧ k ≤ fs.length ∧ (fs.take k).any tooLong = false ∧ h = h0 ∧ m = fs.length - k) (fs.length) (by kernel_rfl) ?_ ?_
  · refine ⟨0, ?_, by omega, rfl, rfl, rfl⟩
    (first | with_reducible rfl | (simp (disch := first | exact dz | fail) only [go_sem, i_0, i_1, i_2, i_3, i_4, i_5, i_6, i_7, i_8, n_0, n_1, n_2, n_3, n_4, n_5, reduceCtorEq, reduceIte] <;> first | with_reducible rfl | (congr 1 <;> omega)))
  · rintro m tr2 h2 ho ⟨k, t6, hk, hany, rfl, rfl⟩
    have k0 := ho 0 (Seen.of rfl); simp (disch := first | exact dz | fail) only [go_sem, i_0, i_1, i_2, i_3, i_4, i_5, i_6, i_7, i_8, n_0, n_1, n_2, n_3, n_4, n_5, reduceCtorEq, reduceIte, e0, e1] at k0; have k1 := ho 1 (Seen.of rfl); simp (disch := first | exact dz | fail) only [go_sem, i_0, i_1, i_2, i_3, i_4, i_5, i_6, i_7, i_8, n_0, n_1, n_2, n_3, n_4, n_5, reduceCtorEq, reduceIte, e0, e1] at k1
    by_cases hc : k < fs.length
    · rcases hx : fs[k]! with ⟨x1, x2, x3⟩
      have hbx := bang_some hc
      rw [hx] at hbx
      have htk : fs.take (k + 1) = fs.take k ++ [(x1, x2, x3)] := by rw [List.take_add_one, hbx]; rfl
      have l0 : loadA Try.T h2 9 (a.at EF.sz 0 (k : Int)) = some (.str x1) := s2.ld (by omega) (by omega) (by rw [Int.toNat_natCast, hx]; rfl) (by decide) rfl rfl
      have l1 : loadA Try.T h2 9 (a.at EF.sz 1 (k : Int)) = some (.str x2) := s2.ld (by omega) (by omega) (by rw [Int.toNat_natCast, hx]; rfl) (by decide) rfl rfl
      have bad : tooLong (x1, x2, x3) = true → KK (.tuple [.slice none 0 0 0 true, .int .i64 5]) h2 := fun hb => by
        have hA : fs.any tooLong = true := List.any_eq_true.2 ⟨_, List.mem_of_getElem? hbx, hb⟩
        have hE : blkE fs = 5 := if_pos hA
        refine hKK _ _ ⟨_, i, h2.size + i + 1, by rw [hE], .inl rfl, ?_, by omega, by omega, ?_, But3.refl _ _ _ _⟩
        · unfold blkS; rw [hE, if_neg (by decide)]; exact he
        · unfold blkB; rw [hE, if_neg (by decide)]; exact .nil0 _ _
      by_cases c1 : 65536 < x1.length
      · repeat' (first
      | with_reducible first | refine Nx.h ?_ | (refine hK _ _ ?_; clear hK K)
      | ((with_reducible refine q_eo ?_ ?_); exact rfl)
      | ((with_reducible first | (refine Ny.h ?_; intro K hK) | (refine c_drw (by decide +kernel) ?_; intro K hK) | refine c_cond ?_ | show endW _ _ _ _ _ | (refine Nz.h ?_ ?_ <;> intro _) | fail) <;> try simp (disch := first | exact dz | fail) only [go_sem, i_0, i_1, i_2, i_3, i_4, i_5, i_6, i_7, i_8, n_0, n_1, n_2, n_3, n_4, n_5, reduceCtorEq, reduceIte, k0, k1, t6, l0, l1]))
        exact bad (by simp [tooLong, c1])
      · by_cases c2 : 65536 < x2.length
        · repeat' (first
      | with_reducible first | refine Nx.h ?_ | (refine hK _ _ ?_; clear hK K)
      | ((with_reducible refine q_eo ?_ ?_); exact rfl)
      | ((with_reducible first | (refine Ny.h ?_; intro K hK) | (refine c_drw (by decide +kernel) ?_; intro K hK) | refine c_cond ?_ | show endW _ _ _ _ _ | (refine Nz.h ?_ ?_ <;> intro _) | fail) <;> try simp (disch := first | exact dz | fail) only [go_sem, i_0, i_1, i_2, i_3, i_4, i_5, i_6, i_7, i_8, n_0, n_1, n_2, n_3, n_4, n_5, reduceCtorEq, reduceIte, k0, k1, t6, l0, l1]))
          exact bad (by simp [tooLong, c2])
        · repeat' (first
      | with_reducible first | refine Nx.h ?_ | (refine hK _ _ ?_; clear hK K)
      | ((with_reducible refine q_eo ?_ ?_); exact rfl)
      | ((with_reducible first | (refine Ny.h ?_; intro K hK) | (refine c_drw (by decide +kernel) ?_; intro K hK) | refine c_cond ?_ | show endW _ _ _ _ _ | (refine Nz.h ?_ ?_ <;> intro _) | fail) <;> try simp (disch := first | exact dz | fail) only [go_sem, i_0, i_1, i_2, i_3, i_4, i_5, i_6, i_7, i_8, n_0, n_1, n_2, n_3, n_4, n_5, reduceCtorEq, reduceIte, k0, k1, t6, l0, l1]))
          try dsimp only
          refine ⟨rfl, fs.length - (k + 1), by omega, k + 1, ?_, by omega, ?_, rfl, rfl⟩
          · (first | with_reducible rfl | (simp (disch := first | exact dz | fail) only [go_sem, i_0, i_1, i_2, i_3, i_4, i_5, i_6, i_7, i_8, n_0, n_1, n_2, n_3, n_4, n_5, reduceCtorEq, reduceIte, t6] <;> first | with_reducible rfl | (congr 1 <;> omega)))
          · rw [htk, List.any_append, hany]; simp [tooLong]; omega
    · have hke : k = fs.length := by omega
      subst hke
      rw [List.take_length] at hany
      have hsz := szs_up fs (fun x hx => by
        cases ht : tooLong x with
        | false => rfl
        | true => rw [List.any_eq_true.2 ⟨x, hx, ht⟩] at hany; cases hany)
      have hsn := szs_nn fs
      have hW : W (szs fs) = szs fs := W_in (by omega) (by omega)
      repeat' (first
      | with_reducible first | refine Nx.h ?_ | (refine hK _ _ ?_; clear hK K)
      | ((with_reducible refine q_eo ?_ ?_); exact rfl)
      | ((with_reducible first | (refine Ny.h ?_; intro K hK) | (refine c_drw (by decide +kernel) ?_; intro K hK) | refine c_cond ?_ | show endW _ _ _ _ _ | (refine Nz.h ?_ ?_ <;> intro _) | fail) <;> try simp (disch := first | exact dz | fail) only [go_sem, i_0, i_1, i_2, i_3, i_4, i_5, i_6, i_7, i_8, n_0, n_1, n_2, n_3, n_4, n_5, reduceCtorEq, reduceIte, k0, k1, t6]))
      refine callM_of (rsizeF a ia fs h2 s2 (by omega)) ?_
      rintro v h3 ⟨rfl, rfl⟩
      rw [hW]
      by_cases c1 : szs fs > 32768
      · have hE : blkE fs = 2 := by unfold blkE; rw [hany, if_neg (by decide), if_pos c1]
        refine vI ?_; repeat' (first
      | with_reducible first | refine Nx.h ?_ | (refine hK _ _ ?_; clear hK K)
      | ((with_reducible refine q_eo ?_ ?_); exact rfl)
      | ((with_reducible first | refine vO ?_ | (refine Ny.h ?_; intro K hK) | (refine c_drw (by decide +kernel) ?_; intro K hK) | refine c_cond ?_ | show endW _ _ _ _ _ | (refine Nz.h ?_ ?_ <;> intro _) | fail) <;> try simp (disch := first | exact dz | fail) only [go_sem, i_0, i_1, i_2, i_3, i_4, i_5, i_6, i_7, i_8, n_0, n_1, n_2, n_3, n_4, n_5, reduceCtorEq, reduceIte, k0, k1]))
        refine hKK _ _ ⟨_, i, h3.size + i + 1, by rw [hE], .inl rfl, ?_, by omega, by omega, ?_, But3.refl _ _ _ _⟩
        · unfold blkS; rw [hE, if_neg (by decide)]; exact he
        · unfold blkB; rw [hE, if_neg (by decide)]; exact .nil0 _ _
      · have hE : blkE fs = 0 := by unfold blkE; rw [hany, if_neg (by decide), if_neg c1]
        have hbS : blkS s fs = bodyS (preS s) fs := if_pos hE
        have hbB : blkB s fs = preB s ++ bodyB (preS s) fs := if_pos hE
        rw [hE, hbS, hbB] at hKK
        have hfl : fs.length ≤ 1024 := by omega
        clear hE hbS hbB hsz hsn hW
        obtain ⟨ok1, ok2, ok3⟩ := ok
        have g3 := he.g
        obtain ⟨pk1, pk2⟩ := pre_known s
        have mk : ∀ (hC : AH) (iC : Nat) (sC : En) (x : Int), EnR hC e p iC sC → sC = up2S (up1S s) → x = s.last → EnR (hC.set e (.cells [.ptr (some (p, 0)), .int .i64 sC.known, .int .i64 x, .int .i64 sC.last])) e p iC (preS s) := fun hC iC sC x hC1 e1 ex => by
          subst e1
          subst ex
          obtain ⟨g, ⟨a', ta⟩, es, ep, ei⟩ := hC1
          refine ⟨?_, ⟨a', ta.frame (by rw [AH.get_set, if_neg (fun h => ep h.symm)]) (by rw [AH.get_set, if_neg (fun h => ei h.symm)]) (by simp)⟩, by simpa using es, ep, ei⟩
          rw [AH.get_set, if_pos rfl]
          unfold preS
          simp only [pk1, pk2]
        have lp : (preS s).l.length ≤ 900000 := by
          have := up_len s
          show (up2S (up1S s)).l.length ≤ _
          omega
        have lB1 : (up1B s).length ≤ 6 := by unfold up1B; split; exact numB_len _ _ _; simp
        have lB2 : (up2B (up1S s)).length ≤ 6 := by unfold up2B; split; exact numB_len _ _ _; simp
        have lB : (preB s).length ≤ 12 := by unfold preB; rw [List.length_append]; omega
        have ok1S : 0 ≤ (up1S s).last ∧ (up1S s).last ≤ 4096 ∧ (up1S s).l.length ≤ 900000 := by
          unfold up1S; split
          · exact ⟨ok3.1, ok3.2, by have := shr_len s.least s.l; show (shr s.least s.l).length ≤ _; omega⟩
          · exact ⟨ok3.1, ok3.2, hl⟩
        by_cases u1 : s.least < s.known
        focus
          have eS1 : up1S s = updS s s.least := if_pos u1
          have eB1 : up1B s = numB 5 32 s.least := if_pos u1
          refine vI ?_; repeat' (first
      | with_reducible first | refine Nx.h ?_ | (refine hK _ _ ?_; clear hK K)
      | ((with_reducible refine q_eo ?_ ?_); exact rfl)
      | ((with_reducible first | refine vO ?_ | (refine Ny.h ?_; intro K hK) | (refine c_drw (by decide +kernel) ?_; intro K hK) | refine c_cond ?_ | show endW _ _ _ _ _ | (refine Nz.h ?_ ?_ <;> intro _) | fail) <;> try simp (disch := first | exact dz | fail) only [go_sem, i_0, i_1, i_2, i_3, i_4, i_5, i_6, i_7, i_8, n_0, n_1, n_2, n_3, n_4, n_5, reduceCtorEq, reduceIte, k0, k1, g3]))
          refine callM_of (rupdate e p i s s.least h3 he (by omega) (by omega)) ?_
          rintro vU hU ⟨iA, jU, hiA, heU, hjU, oU, bU, hjiU⟩
          rw [← eB1] at oU
          rw [← eS1] at heU
          have oN : Ow E8 hU (h3.size + iA + 1) (.slice none 0 0 0 true) [] := .nil0 _ _
          have zU := bU.1
          refine vI ?_; repeat' (first
      | with_reducible first | refine Nx.h ?_ | (refine hK _ _ ?_; clear hK K)
      | ((with_reducible refine q_eo ?_ ?_); exact rfl)
      | ((with_reducible first | refine vO ?_ | (refine Ny.h ?_; intro K hK) | (refine c_drw (by decide +kernel) ?_; intro K hK) | refine c_cond ?_ | show endW _ _ _ _ _ | (refine Nz.h ?_ ?_ <;> intro _) | fail) <;> try simp (disch := first | exact dz | fail) only [go_sem, i_0, i_1, i_2, i_3, i_4, i_5, i_6, i_7, i_8, n_0, n_1, n_2, n_3, n_4, n_5, reduceCtorEq, reduceIte, k0, k1]))
          refine Try.ap33 oN oU.sl (by exact .mk) (by rw [List.length_nil]; omega) fun vA hA jA oA hjA zA fA => ?_
          rw [List.nil_append] at oA
          obtain ⟨heA, bA, jA0, jA1⟩ := heU.app hes hps bU hiA (by omega) (by omega) hjA zA fA
          clear fA oN oU heU bU hjU hjiU hjA eS1 eB1 g3
        rotate_left
        focus
          have eS1 : up1S s = s := if_neg u1
          have eB1 : up1B s = [] := if_neg u1
          obtain ⟨hA, ehA⟩ : ∃ hA, hA = h3 := ⟨_, rfl⟩
          obtain ⟨iA, eiA⟩ : ∃ iA, iA = i := ⟨_, rfl⟩
          have hiA : iA = i ∨ h3.size ≤ iA := .inl eiA
          have heA : EnR hA e p iA (up1S s) := by rw [ehA, eS1, eiA]; exact he
          obtain ⟨jA, hjA⟩ : ∃ jA, jA = h3.size + i + 1 := ⟨_, rfl⟩
          have oA : Ow E8 hA jA (.slice none 0 0 0 true) (up1B s) := by rw [eB1]; exact .nil0 _ _
          have bA : But3 e p i h3 hA := by rw [ehA]; exact But3.refl _ _ _ _
          have jA0 : h3.size ≤ jA := by omega
          have jA1 : ¬ jA = iA := by omega
          rw [← eS1] at u1
          rw [← ehA]
          clear eS1 eB1 g3 hjA eiA ehA
        all_goals
          have gA := heA.g
          have zA := bA.1
          by_cases u2 : ¬ (up1S s).last = (up1S s).known
          focus
            have eS2 : up2S (up1S s) = updS (up1S s) (up1S s).last := if_pos u2
            have eB2 : up2B (up1S s) = numB 5 32 (up1S s).last := if_pos u2
            refine vI ?_; repeat' (first
      | with_reducible first | refine Nx.h ?_ | (refine hK _ _ ?_; clear hK K)
      | ((with_reducible refine q_eo ?_ ?_); exact rfl)
      | ((with_reducible first | refine vO ?_ | (refine Ny.h ?_; intro K hK) | (refine c_drw (by decide +kernel) ?_; intro K hK) | refine c_cond ?_ | show endW _ _ _ _ _ | (refine Nz.h ?_ ?_ <;> intro _) | fail) <;> try simp (disch := first | exact dz | fail) only [go_sem, i_0, i_1, i_2, i_3, i_4, i_5, i_6, i_7, i_8, n_0, n_1, n_2, n_3, n_4, n_5, reduceCtorEq, reduceIte, k0, k1, gA]))
            refine callM_of (rupdate e p iA (up1S s) (up1S s).last hA heA (by omega) (by omega)) ?_
            rintro vU hU ⟨iC, jU, hiC, heU, hjU, oU, bU, hjiU⟩
            rw [← eB2] at oU
            rw [← eS2] at heU
            have zU := bU.1
            have iAs : iA < hA.size := by obtain ⟨_, ⟨_, t⟩, _, _, _⟩ := heA; exact t.is
            obtain ⟨jB, jB0, jB1, oB⟩ := idx_new (b0 := h3.size) (h' := hU) (i := iA) (i' := iC) oA jA0 jA1 hiC bU.1 zA (fun hs => bU.2 jA hs (by omega) (by omega) jA1)
            have bU' := bA.trans bU hiA
            refine vI ?_; repeat' (first
      | with_reducible first | refine Nx.h ?_ | (refine hK _ _ ?_; clear hK K)
      | ((with_reducible refine q_eo ?_ ?_); exact rfl)
      | ((with_reducible first | refine vO ?_ | (refine Ny.h ?_; intro K hK) | (refine c_drw (by decide +kernel) ?_; intro K hK) | refine c_cond ?_ | show endW _ _ _ _ _ | (refine Nz.h ?_ ?_ <;> intro _) | fail) <;> try simp (disch := first | exact dz | fail) only [go_sem, i_0, i_1, i_2, i_3, i_4, i_5, i_6, i_7, i_8, n_0, n_1, n_2, n_3, n_4, n_5, reduceCtorEq, reduceIte, k0, k1]))
            refine Try.ap33 oB oU.sl (by exact .mk) (by omega) fun vC hC jC oC hjC zC fC => ?_
            obtain ⟨heC, bC, jC0, jC1⟩ := heU.app hes hps bU' (by omega) jB0 jB1 hjC zC fC
            have gC := heC.g
            refine vI ?_; repeat' (first
      | with_reducible first | refine Nx.h ?_ | (refine hK _ _ ?_; clear hK K)
      | ((with_reducible refine q_eo ?_ ?_); exact rfl)
      | ((with_reducible first | refine vO ?_ | (refine Ny.h ?_; intro K hK) | (refine c_drw (by decide +kernel) ?_; intro K hK) | refine c_cond ?_ | show endW _ _ _ _ _ | (refine Nz.h ?_ ?_ <;> intro _) | fail) <;> try simp (disch := first | exact dz | fail) only [go_sem, i_0, i_1, i_2, i_3, i_4, i_5, i_6, i_7, i_8, n_0, n_1, n_2, n_3, n_4, n_5, reduceCtorEq, reduceIte, k0, k1, gC]))
            refine c_hide fun hD hhD => ?_
            have heD : EnR hD e p iC (preS s) := by rw [hhD]; exact mk hC _ _ _ heC rfl (by first | exact pk1 | exact pk2)
            have oD : Ow E8 hD jC vC (preB s) := oC.frame (fun _ => by rw [hhD, AH.get_set, if_neg (by omega)]) (by rw [hhD]; simp)
            have bD : But3 e p i h3 hD := ⟨by rw [hhD, AH.size_set]; exact bC.1, fun x hx q1 q2 q3 => by rw [hhD, AH.get_set, if_neg q1, bC.2 x hx q1 q2 q3]⟩
            have jD0 : h3.size ≤ jC ∧ ¬ jC = iC ∧ (iC = i ∨ h3.size ≤ iC) := by omega
            clear hhD heC gC oC fC heA gA oA bA eS2 eB2 hjC mk bC bU bU' oB oU heU
          rotate_left
          focus
            have eS2 : up1S s = up2S (up1S s) := (if_neg u2).symm
            have eB2 : up2B (up1S s) = [] := if_neg u2
            refine vI ?_; repeat' (first
      | with_reducible first | refine Nx.h ?_ | (refine hK _ _ ?_; clear hK K)
      | ((with_reducible refine q_eo ?_ ?_); exact rfl)
      | ((with_reducible first | refine vO ?_ | (refine Ny.h ?_; intro K hK) | (refine c_drw (by decide +kernel) ?_; intro K hK) | refine c_cond ?_ | show endW _ _ _ _ _ | (refine Nz.h ?_ ?_ <;> intro _) | fail) <;> try simp (disch := first | exact dz | fail) only [go_sem, i_0, i_1, i_2, i_3, i_4, i_5, i_6, i_7, i_8, n_0, n_1, n_2, n_3, n_4, n_5, reduceCtorEq, reduceIte, k0, k1, gA]))
            refine c_hide fun hD hhD => ?_
            have heD : EnR hD e p iA (preS s) := by rw [hhD]; exact mk hA _ _ _ heA eS2 (by first | exact pk1 | exact pk2 | (rw [eS2]; first | exact pk1 | exact pk2))
            have oD := oA.frame (h' := hD) (fun _ => by rw [hhD, AH.get_set, if_neg (by omega)]) (by rw [hhD]; simp)
            have ePB : preB s = up1B s := by unfold preB; rw [eB2, List.append_nil]
            rw [← ePB] at oD
            have bD : But3 e p i h3 hD := ⟨by rw [hhD, AH.size_set]; exact bA.1, fun x hx q1 q2 q3 => by rw [hhD, AH.get_set, if_neg q1, bA.2 x hx q1 q2 q3]⟩
            have jD0 : h3.size ≤ jA ∧ ¬ jA = iA ∧ (iA = i ∨ h3.size ≤ iA) := by omega
            clear hhD heA gA oA bA eS2 eB2 mk
        all_goals
          obtain ⟨jD0, jD1, iD⟩ := jD0
          refine codeW_base fun tr3 ho3 => ?_
          have q0 := ho3 0 (Seen.of rfl); simp (disch := first | exact dz | fail) only [go_sem, i_0, i_1, i_2, i_3, i_4, i_5, i_6, i_7, i_8, n_0, n_1, n_2, n_3, n_4, n_5, reduceCtorEq, reduceIte, k0, k1] at q0; have q1 := ho3 1 (Seen.of rfl); simp (disch := first | exact dz | fail) only [go_sem, i_0, i_1, i_2, i_3, i_4, i_5, i_6, i_7, i_8, n_0, n_1, n_2, n_3, n_4, n_5, reduceCtorEq, reduceIte, k0, k1] at q1; have q7 := ho3 7 (Seen.of rfl); simp (disch := first | exact dz | fail) only [go_sem, i_0, i_1, i_2, i_3, i_4, i_5, i_6, i_7, i_8, n_0, n_1, n_2, n_3, n_4, n_5, reduceCtorEq, reduceIte, k0, k1] at q7; have q10 := ho3 10 (Seen.of rfl); simp (disch := first | exact dz | fail) only [go_sem, i_0, i_1, i_2, i_3, i_4, i_5, i_6, i_7, i_8, n_0, n_1, n_2, n_3, n_4, n_5, reduceCtorEq, reduceIte, k0, k1] at q10
          refine c_loopF 2787593149816327887856261505622528489438336 (fun m tm h => ∃ (k j i' : Nat) (v : AV), tm.get 10 = .int .i64 k ∧ tm.get 7 = v ∧ k ≤ fs.length ∧ EnR h e p i' (bodyS (preS s) (fs.take k)) ∧ Ow E8 h j v (preB s ++ bodyB (preS s) (fs.take k)) ∧ h3.size ≤ j ∧ ¬ j = i' ∧ (i' = i ∨ h3.size ≤ i') ∧ But3 e p i h3 h ∧ m = fs.length - k) (fs.length) (by kernel_rfl) ?_ ?_
          · have e0B : preB s = preB s ++ bodyB (preS s) (fs.take 0) := by rw [List.take_zero]; exact (List.append_nil _).symm
            rw [e0B] at oD
            refine ⟨0, _, _, _, ?_, ?_, by omega, heD, oD, jD0, jD1, iD, bD, rfl⟩
            · (first | with_reducible rfl | (simp (disch := first | exact dz | fail) only [go_sem, i_0, i_1, i_2, i_3, i_4, i_5, i_6, i_7, i_8, n_0, n_1, n_2, n_3, n_4, n_5, reduceCtorEq, reduceIte, q10] <;> first | with_reducible rfl | (congr 1 <;> omega)))
            · (first | with_reducible rfl | (simp (disch := first | exact dz | fail) only [go_sem, i_0, i_1, i_2, i_3, i_4, i_5, i_6, i_7, i_8, n_0, n_1, n_2, n_3, n_4, n_5, reduceCtorEq, reduceIte, q7] <;> first | with_reducible rfl | (congr 1 <;> omega)))
          · clear heD oD bD q7 q10 jD0 jD1 iD
            rintro m tr4 h4 ho4 ⟨k, j, i', v, t10, t7, hk', he4, o4, hj4, hji4, hi4, b4, rfl⟩
            have r0 := ho4 0 (Seen.of rfl); simp (disch := first | exact dz | fail) only [go_sem, i_0, i_1, i_2, i_3, i_4, i_5, i_6, i_7, i_8, n_0, n_1, n_2, n_3, n_4, n_5, reduceCtorEq, reduceIte, q0, q1] at r0; have r1 := ho4 1 (Seen.of rfl); simp (disch := first | exact dz | fail) only [go_sem, i_0, i_1, i_2, i_3, i_4, i_5, i_6, i_7, i_8, n_0, n_1, n_2, n_3, n_4, n_5, reduceCtorEq, reduceIte, q0, q1] at r1
            by_cases hc2 : k < fs.length
            · have z4 := b4.1
              have s4 := ha h4 b4.1 b4.2
              rcases hx : fs[k]! with ⟨x1, x2, x3⟩
              have hbx := bang_some hc2
              rw [hx] at hbx
              have htk : fs.take (k + 1) = fs.take k ++ [(x1, x2, x3)] := by rw [List.take_add_one, hbx]; rfl
              have hS : bodyS (preS s) (fs.take (k + 1)) = fldS (bodyS (preS s) (fs.take k)) (x1, x2, x3) := by rw [htk, bodyS_snoc]
              have hB : preB s ++ bodyB (preS s) (fs.take (k + 1)) = preB s ++ bodyB (preS s) (fs.take k) ++ fldB (bodyS (preS s) (fs.take k)) (x1, x2, x3) := by rw [htk, bodyB_snoc, List.append_assoc]
              have ll := bodyS_len (fs.take k) (preS s)
              have lb := bodyB_len (fs.take k) (preS s)
              have ltk : (fs.take k).length ≤ 1024 := by rw [List.length_take]; omega
              have lbb : (preB s ++ bodyB (preS s) (fs.take k)).length ≤ 1000000000 := by rw [List.length_append]; omega
              have lls : (bodyS (preS s) (fs.take k)).l.length ≤ 1000000 := by omega
              clear ll lb ltk hbx htk
              generalize bodyS (preS s) (fs.take k) = σ at *
              generalize preB s ++ bodyB (preS s) (fs.take k) = bs at *
              repeat' (first
      | with_reducible first | refine Nx.h ?_ | (refine hK _ _ ?_; clear hK K)
      | ((with_reducible refine q_eo ?_ ?_); exact rfl)
      | ((with_reducible first | (refine Ny.h ?_; intro K hK) | (refine c_drw (by decide +kernel) ?_; intro K hK) | refine c_cond ?_ | show endW _ _ _ _ _ | (refine Nz.h ?_ ?_ <;> intro _) | fail) <;> try simp (disch := first | exact dz | fail) only [go_sem, i_0, i_1, i_2, i_3, i_4, i_5, i_6, i_7, i_8, n_0, n_1, n_2, n_3, n_4, n_5, reduceCtorEq, reduceIte, r0, r1, t10, t7, hx, EFf]))
              refine callM_of (refind e p i' σ (x1, x2, x3) h4 he4 lls) ?_
              rintro w h6 ⟨rfl, k6⟩
              have z6 := k6.1
              have he6 := he4.frame (h' := h6) (fun b hb _ => k6.2 b hb) k6.1
              have o6 := o4.frame (h' := h6) (fun hjs => k6.2 j hjs) k6.1
              have b6 : But3 e p i h3 h6 := ⟨by omega, fun b hb q1 q2 q3 => by rw [k6.2 b (by omega), b4.2 b hb q1 q2 q3]⟩
              have s6 := ha h6 b6.1 b6.2
              have i6 : i' < h6.size := by obtain ⟨_, ⟨_, t⟩, _, _, _⟩ := he6; exact t.is
              have lx : loadA Try.T h6 4 (a.at EF.sz 2 (k : Int)) = some (.bool x3) := s6.ld (by omega) (by omega) (by rw [Int.toNat_natCast, hx]; rfl) (by decide) rfl rfl
              clear he4 o4 k6 b4 s4
              simp only
              cases x3
              · by_cases hf : (findE x1 x2 σ.l).1 > 0
                · rw [fldS_f1 _ _ _ hf] at hS
                  rw [fldB_f1 _ _ _ hf] at hB
                  generalize (findE x1 x2 σ.l).1 = f1 at *
                  generalize (findE x1 x2 σ.l).2 = f2 at *
                  have ln := numB_len 7 128 f1
                  refine vI ?_; repeat' (first
      | with_reducible first | refine Nx.h ?_ | (refine hK _ _ ?_; clear hK K)
      | ((with_reducible refine q_eo ?_ ?_); exact rfl)
      | ((with_reducible first | refine vO ?_ | (refine Ny.h ?_; intro K hK) | (refine c_drw (by decide +kernel) ?_; intro K hK) | refine c_cond ?_ | show endW _ _ _ _ _ | (refine Nz.h ?_ ?_ <;> intro _) | fail) <;> try simp (disch := first | exact dz | fail) only [go_sem, i_0, i_1, i_2, i_3, i_4, i_5, i_6, i_7, i_8, n_0, n_1, n_2, n_3, n_4, n_5, reduceCtorEq, reduceIte, r0, r1, t10, t7, hx, EFf, lx]))
                  refine callM_of (rnum 7 128 f1 h6) ?_
                  rintro w h7 ⟨w2, x', rfl, ⟨j7, hj7, o7⟩, k7⟩
                  have z7 := k7.1
                  have he7 := he6.frame (h' := h7) (fun b hb _ => k7.2 b hb) k7.1
                  have o6' := o6.frame (h' := h7) (fun hjs => k7.2 j hjs) k7.1
                  have b7 : But3 e p i h3 h7 := ⟨by omega, fun b hb q1 q2 q3 => by rw [k7.2 b (by omega), b6.2 b hb q1 q2 q3]⟩
                  refine vI ?_; repeat' (first
      | with_reducible first | refine Nx.h ?_ | (refine hK _ _ ?_; clear hK K)
      | ((with_reducible refine q_eo ?_ ?_); exact rfl)
      | ((with_reducible first | refine vO ?_ | (refine Ny.h ?_; intro K hK) | (refine c_drw (by decide +kernel) ?_; intro K hK) | refine c_cond ?_ | show endW _ _ _ _ _ | (refine Nz.h ?_ ?_ <;> intro _) | fail) <;> try simp (disch := first | exact dz | fail) only [go_sem, i_0, i_1, i_2, i_3, i_4, i_5, i_6, i_7, i_8, n_0, n_1, n_2, n_3, n_4, n_5, reduceCtorEq, reduceIte, r0, r1, t10, t7]))
                  refine Try.ap33 o6' o7.sl (by exact .mk) (by omega) fun v8 h8 j8 o8 hj8 z8 f8 => ?_
                  obtain ⟨e8, b8, j80, j8i⟩ := he7.app hes hps b7 hi4 hj4 hji4 hj8 z8 f8
                  refine vI ?_; repeat' (first
      | with_reducible first | refine Nx.h ?_ | (refine hK _ _ ?_; clear hK K)
      | ((with_reducible refine q_eo ?_ ?_); exact rfl)
      | ((with_reducible first | refine vO ?_ | (refine Ny.h ?_; intro K hK) | (refine c_drw (by decide +kernel) ?_; intro K hK) | refine c_cond ?_ | show endW _ _ _ _ _ | (refine Nz.h ?_ ?_ <;> intro _) | fail) <;> try simp (disch := first | exact dz | fail) only [go_sem, i_0, i_1, i_2, i_3, i_4, i_5, i_6, i_7, i_8, n_0, n_1, n_2, n_3, n_4, n_5, reduceCtorEq, reduceIte, r0, r1, t10, t7]))
                  refine ⟨rfl, fs.length - (k + 1), by omega, k + 1, j8, i', _, ?_, ?_, by omega, by rw [hS]; exact e8, by rw [hB]; exact o8, j80, j8i, hi4, b8, rfl⟩
                  · (first | with_reducible rfl | (simp (disch := first | exact dz | fail) only [go_sem, i_0, i_1, i_2, i_3, i_4, i_5, i_6, i_7, i_8, n_0, n_1, n_2, n_3, n_4, n_5, reduceCtorEq, reduceIte, t10] <;> first | with_reducible rfl | (congr 1 <;> omega)))
                  · (first | with_reducible rfl | (simp (disch := first | exact dz | fail) only [go_sem, i_0, i_1, i_2, i_3, i_4, i_5, i_6, i_7, i_8, n_0, n_1, n_2, n_3, n_4, n_5, reduceCtorEq, reduceIte] <;> first | with_reducible rfl | (congr 1 <;> omega)))
                · rw [fldS_f0 _ _ _ hf] at hS
                  rw [fldB_f0 _ _ _ hf] at hB
                  generalize (findE x1 x2 σ.l).1 = f1 at *
                  generalize (findE x1 x2 σ.l).2 = f2 at *
                  have ln := litB_len 6 64 f2 (x1, x2, false)
                  refine vI ?_; repeat' (first
      | with_reducible first | refine Nx.h ?_ | (refine hK _ _ ?_; clear hK K)
      | ((with_reducible refine q_eo ?_ ?_); exact rfl)
      | ((with_reducible first | refine vO ?_ | (refine Ny.h ?_; intro K hK) | (refine c_drw (by decide +kernel) ?_; intro K hK) | refine c_cond ?_ | show endW _ _ _ _ _ | (refine Nz.h ?_ ?_ <;> intro _) | fail) <;> try simp (disch := first | exact dz | fail) only [go_sem, i_0, i_1, i_2, i_3, i_4, i_5, i_6, i_7, i_8, n_0, n_1, n_2, n_3, n_4, n_5, reduceCtorEq, reduceIte, r0, r1, t10, t7, hx, EFf, lx]))
                  refine callM_of (rliteral 6 64 f2 (x1, x2, false) h6) ?_
                  rintro w h7 ⟨⟨j7, hj7, o7⟩, k7⟩
                  have z7 := k7.1
                  have he7 := he6.frame (h' := h7) (fun b hb _ => k7.2 b hb) k7.1
                  have o6' := o6.frame (h' := h7) (fun hjs => k7.2 j hjs) k7.1
                  have b7 : But3 e p i h3 h7 := ⟨by omega, fun b hb q1 q2 q3 => by rw [k7.2 b (by omega), b6.2 b hb q1 q2 q3]⟩
                  have s7 := ha h7 b7.1 b7.2
                  have l0 : loadA Try.T h7 9 (a.at EF.sz 0 (k : Int)) = some (.str x1) := s7.ld (by omega) (by omega) (by rw [Int.toNat_natCast, hx]; rfl) (by decide) rfl rfl
                  have l1 : loadA Try.T h7 9 (a.at EF.sz 1 (k : Int)) = some (.str x2) := s7.ld (by omega) (by omega) (by rw [Int.toNat_natCast, hx]; rfl) (by decide) rfl rfl
                  obtain ⟨g7, ⟨a7, ta7⟩, es7, ep7, ei7⟩ := he7
                  have ps7 := ta7.ps
                  refine vI ?_; repeat' (first
      | with_reducible first | refine Nx.h ?_ | (refine hK _ _ ?_; clear hK K)
      | ((with_reducible refine q_eo ?_ ?_); exact rfl)
      | ((with_reducible first | refine vO ?_ | (refine Ny.h ?_; intro K hK) | (refine c_drw (by decide +kernel) ?_; intro K hK) | refine c_cond ?_ | show endW _ _ _ _ _ | (refine Nz.h ?_ ?_ <;> intro _) | fail) <;> try simp (disch := first | exact dz | fail) only [go_sem, i_0, i_1, i_2, i_3, i_4, i_5, i_6, i_7, i_8, n_0, n_1, n_2, n_3, n_4, n_5, reduceCtorEq, reduceIte, r0, r1, t10, t7, l0, l1, g7]))
                  refine callM_of (rAdd p i' σ.l σ.known x1 x2 a7 h7 ta7 lls) ?_
                  rintro w8 h8 ⟨b8, a8, i8, ta8, hi8⟩
                  have z8 := b8.1
                  obtain ⟨jx, jx0, jxi, ox⟩ := idx_new (b0 := h3.size) (i' := i8) o6' hj4 hji4 hi8 z8 (by omega) (fun hs => b8.2 j hs (by omega) hji4)
                  have o7' := o7.frame (h' := h8) (fun hs => b8.2 j7 hs (by omega) (by omega)) z8
                  have he8 : EnR h8 e p i8 { σ with l := addL σ.known x1 x2 σ.l } := ⟨(b8.2 e es7 ep7 ei7).trans g7, ⟨a8, ta8⟩, Nat.lt_of_lt_of_le es7 z8, ep7, by omega⟩
                  have b7z := b7.1
                  have b8' : But3 e p i h3 h8 := ⟨by omega, fun b hb q1 q2 q3 => by rw [b8.2 b (by omega) q2 (by omega), b7.2 b hb q1 q2 q3]⟩
                  have hi8' : i8 = i ∨ h3.size ≤ i8 := by omega
                  refine vI ?_; repeat' (first
      | with_reducible first | refine Nx.h ?_ | (refine hK _ _ ?_; clear hK K)
      | ((with_reducible refine q_eo ?_ ?_); exact rfl)
      | ((with_reducible first | refine vO ?_ | (refine Ny.h ?_; intro K hK) | (refine c_drw (by decide +kernel) ?_; intro K hK) | refine c_cond ?_ | show endW _ _ _ _ _ | (refine Nz.h ?_ ?_ <;> intro _) | fail) <;> try simp (disch := first | exact dz | fail) only [go_sem, i_0, i_1, i_2, i_3, i_4, i_5, i_6, i_7, i_8, n_0, n_1, n_2, n_3, n_4, n_5, reduceCtorEq, reduceIte, r0, r1, t10, t7]))
                  refine Try.ap33 ox o7'.sl (by exact .mk) (by omega) fun v9 h9 j9 o9 hj9 z9 f9 => ?_
                  obtain ⟨e9, b9, j90, j9i⟩ := he8.app hes hps b8' hi8' jx0 jxi hj9 z9 f9
                  refine vI ?_; repeat' (first
      | with_reducible first | refine Nx.h ?_ | (refine hK _ _ ?_; clear hK K)
      | ((with_reducible refine q_eo ?_ ?_); exact rfl)
      | ((with_reducible first | refine vO ?_ | (refine Ny.h ?_; intro K hK) | (refine c_drw (by decide +kernel) ?_; intro K hK) | refine c_cond ?_ | show endW _ _ _ _ _ | (refine Nz.h ?_ ?_ <;> intro _) | fail) <;> try simp (disch := first | exact dz | fail) only [go_sem, i_0, i_1, i_2, i_3, i_4, i_5, i_6, i_7, i_8, n_0, n_1, n_2, n_3, n_4, n_5, reduceCtorEq, reduceIte, r0, r1, t10, t7]))
                  refine ⟨rfl, fs.length - (k + 1), by omega, k + 1, j9, i8, _, ?_, ?_, by omega, by rw [hS]; exact e9, by rw [hB]; exact o9, j90, j9i, hi8', b9, rfl⟩
                  · (first | with_reducible rfl | (simp (disch := first | exact dz | fail) only [go_sem, i_0, i_1, i_2, i_3, i_4, i_5, i_6, i_7, i_8, n_0, n_1, n_2, n_3, n_4, n_5, reduceCtorEq, reduceIte, t10] <;> first | with_reducible rfl | (congr 1 <;> omega)))
                  · (first | with_reducible rfl | (simp (disch := first | exact dz | fail) only [go_sem, i_0, i_1, i_2, i_3, i_4, i_5, i_6, i_7, i_8, n_0, n_1, n_2, n_3, n_4, n_5, reduceCtorEq, reduceIte] <;> first | with_reducible rfl | (congr 1 <;> omega)))
              · rw [fldS_t] at hS
                rw [fldB_t] at hB
                generalize (findE x1 x2 σ.l).1 = f1 at *
                generalize (findE x1 x2 σ.l).2 = f2 at *
                have ln := litB_len 4 16 f2 (x1, x2, true)
                refine vI ?_; repeat' (first
      | with_reducible first | refine Nx.h ?_ | (refine hK _ _ ?_; clear hK K)
      | ((with_reducible refine q_eo ?_ ?_); exact rfl)
      | ((with_reducible first | refine vO ?_ | (refine Ny.h ?_; intro K hK) | (refine c_drw (by decide +kernel) ?_; intro K hK) | refine c_cond ?_ | show endW _ _ _ _ _ | (refine Nz.h ?_ ?_ <;> intro _) | fail) <;> try simp (disch := first | exact dz | fail) only [go_sem, i_0, i_1, i_2, i_3, i_4, i_5, i_6, i_7, i_8, n_0, n_1, n_2, n_3, n_4, n_5, reduceCtorEq, reduceIte, r0, r1, t10, t7, hx, EFf, lx]))
                refine callM_of (rliteral 4 16 f2 (x1, x2, true) h6) ?_
                rintro w h7 ⟨⟨j7, hj7, o7⟩, k7⟩
                have z7 := k7.1
                have he7 := he6.frame (h' := h7) (fun b hb _ => k7.2 b hb) k7.1
                have o6' := o6.frame (h' := h7) (fun hjs => k7.2 j hjs) k7.1
                have b7 : But3 e p i h3 h7 := ⟨by omega, fun b hb q1 q2 q3 => by rw [k7.2 b (by omega), b6.2 b hb q1 q2 q3]⟩
                refine vI ?_; repeat' (first
      | with_reducible first | refine Nx.h ?_ | (refine hK _ _ ?_; clear hK K)
      | ((with_reducible refine q_eo ?_ ?_); exact rfl)
      | ((with_reducible first | refine vO ?_ | (refine Ny.h ?_; intro K hK) | (refine c_drw (by decide +kernel) ?_; intro K hK) | refine c_cond ?_ | show endW _ _ _ _ _ | (refine Nz.h ?_ ?_ <;> intro _) | fail) <;> try simp (disch := first | exact dz | fail) only [go_sem, i_0, i_1, i_2, i_3, i_4, i_5, i_6, i_7, i_8, n_0, n_1, n_2, n_3, n_4, n_5, reduceCtorEq, reduceIte, r0, r1, t10, t7]))
                refine Try.ap33 o6' o7.sl (by exact .mk) (by omega) fun v8 h8 j8 o8 hj8 z8 f8 => ?_
                obtain ⟨e8, b8, j80, j8i⟩ := he7.app hes hps b7 hi4 hj4 hji4 hj8 z8 f8
                refine vI ?_; repeat' (first
      | with_reducible first | refine Nx.h ?_ | (refine hK _ _ ?_; clear hK K)
      | ((with_reducible refine q_eo ?_ ?_); exact rfl)
      | ((with_reducible first | refine vO ?_ | (refine Ny.h ?_; intro K hK) | (refine c_drw (by decide +kernel) ?_; intro K hK) | refine c_cond ?_ | show endW _ _ _ _ _ | (refine Nz.h ?_ ?_ <;> intro _) | fail) <;> try simp (disch := first | exact dz | fail) only [go_sem, i_0, i_1, i_2, i_3, i_4, i_5, i_6, i_7, i_8, n_0, n_1, n_2, n_3, n_4, n_5, reduceCtorEq, reduceIte, r0, r1, t10, t7]))
                refine ⟨rfl, fs.length - (k + 1), by omega, k + 1, j8, i', _, ?_, ?_, by omega, by rw [hS]; exact e8, by rw [hB]; exact o8, j80, j8i, hi4, b8, rfl⟩
                · (first | with_reducible rfl | (simp (disch := first | exact dz | fail) only [go_sem, i_0, i_1, i_2, i_3, i_4, i_5, i_6, i_7, i_8, n_0, n_1, n_2, n_3, n_4, n_5, reduceCtorEq, reduceIte, t10] <;> first | with_reducible rfl | (congr 1 <;> omega)))
                · (first | with_reducible rfl | (simp (disch := first | exact dz | fail) only [go_sem, i_0, i_1, i_2, i_3, i_4, i_5, i_6, i_7, i_8, n_0, n_1, n_2, n_3, n_4, n_5, reduceCtorEq, reduceIte] <;> first | with_reducible rfl | (congr 1 <;> omega)))
            · have hke : k = fs.length := by omega
              subst hke
              rw [List.take_length] at he4 o4
              repeat' (first
      | with_reducible first | refine Nx.h ?_ | (refine hK _ _ ?_; clear hK K)
      | ((with_reducible refine q_eo ?_ ?_); exact rfl)
      | ((with_reducible first | (refine Ny.h ?_; intro K hK) | (refine c_drw (by decide +kernel) ?_; intro K hK) | refine c_cond ?_ | show endW _ _ _ _ _ | (refine Nz.h ?_ ?_ <;> intro _) | fail) <;> try simp (disch := first | exact dz | fail) only [go_sem, i_0, i_1, i_2, i_3, i_4, i_5, i_6, i_7, i_8, n_0, n_1, n_2, n_3, n_4, n_5, reduceCtorEq, reduceIte, r0, r1, t10, t7]))
              exact hKK _ _ ⟨_, i', j, rfl, hi4, he4, hj4, hji4, o4, b4⟩
end Go.Proofs.Ytmpeofjfagdgkaa
