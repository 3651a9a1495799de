/- huff.groups and the iterator of huff.All: it goes over the symbols as their codes rise. -/
import Derived.Test.YtmpeofjfagdgkaaHufTab
import Derived.Test.YtmpeofjfagdgkaaAbsFpu
import Derived.Test.YtmpeofjfagdgkaaProg
set_option linter.unusedSimpArgs false
set_option linter.unusedVariables false
namespace Go.Proofs.Ytmpeofjfagdgkaa
open Go.Abs
open Int renaming reduceEq → i_0, reduceLE → i_1, reduceLT → i_2, reduceNe → i_3, reduceNeg → i_4, reduceAdd → i_5, reduceSub → i_6, reduceMul → i_7, reduceToNat → i_8
open Nat renaming reduceLT → n_0, reduceLeDiff → n_1, reduceEqDiff → n_2, reduceAdd → n_3, reduceSub → n_4, reduceMul → n_5
set_option maxRecDepth 100000
/-- A number beside a slice. -/
structure Hd where
  bits : Int
  blk : Nat
  n : Nat
  deriving Inhabited
def EG : Enc Hd := ⟨2, fun x => [.int .i64 x.bits, .slice (some (x.blk, 0)) x.n x.n 1 true], by decide, fun _ => rfl, fun _ => rfl⟩
def hds : Nat → List (Int × List Int) → List Hd
  | _, [] => []
  | b, g :: r => ⟨g.1, b, g.2.length⟩ :: hds (b + 1) r
theorem hds_len : ∀ (l : List (Int × List Int)) (b : Nat), (hds b l).length = l.length
  | [], _ => rfl
  | g :: r, b => by simp [hds, hds_len r]
theorem hds_get : ∀ (l : List (Int × List Int)) (b j : Nat), j < l.length → (hds b l)[j]! = ⟨(l[j]!).1, b + j, (l[j]!).2.length⟩
  | [], _, j, h => by simp at h
  | g :: r, b, 0, h => rfl
  | g :: r, b, j + 1, h => by
    have := hds_get r (b + 1) j (by simpa using h)
    simp only [hds, List.getElem!_cons_succ]
    rw [this]; simp [Nat.add_assoc, Nat.add_comm 1 j]
def gH (h : AH) : AH := (pushes (grp.map fun g => EI.all g.2) h).push (.cells (EG.all (hds h.size grp)))
theorem groups (h : AH) : callW Try.prog Try.T 83 [] h fun v h' => v = .slice (some (h.size + 21, 0)) 21 21 2 true ∧ h' = gH h := by
  have hr : callA Try.prog Try.T 3 83 [] h = some (.slice (some (h.size + 21, 0)) 21 21 2 true, gH h) := by kernel_rfl
  exact callW_eval hr ⟨rfl, rfl⟩
theorem gH_size (h : AH) : (gH h).size = h.size + 22 := by
  unfold gH
  rw [AH.size_push, pushes_size]; rfl
theorem gH_old (h : AH) {b : Nat} (hb : b < h.size) : (gH h).get b = h.get b := by
  unfold gH
  rw [AH.get_push, if_neg (by rw [pushes_size]; omega), pushes_old _ _ _ hb]
theorem gH_new (h : AH) {j : Nat} (hj : j < 21) : (gH h).get (h.size + j) = some (.cells (EI.all (grp[j]!).2)) := by
  unfold gH
  have hl : grp.length = 21 := rfl
  rw [AH.get_push, if_neg (by rw [pushes_size]; simp [hl]; omega)]
  refine pushes_new _ _ _ _ ?_
  rw [List.getElem?_map, List.getElem?_eq_getElem (by omega), getElem!_pos grp j (by omega)]; rfl
theorem gH_top (h : AH) : (gH h).get (h.size + 21) = some (.cells (EG.all (hds h.size grp))) := by
  unfold gH
  have hl : grp.length = 21 := rfl
  rw [AH.get_push, if_pos (by rw [pushes_size]; simp [hl])]
/-- What the iterator holds lies in h. -/
def GIn (b0 : Nat) (S : Nat → Prop) (h : AH) : Prop := b0 + 22 ≤ h.size ∧ (∀ b, b0 ≤ b → b < b0 + 22 → S b) ∧ (∀ j, j < 21 → h.get (b0 + j) = some (.cells (EI.all (grp[j]!).2))) ∧ h.get (b0 + 21) = some (.cells (EG.all (hds b0 grp)))
theorem GIn.top {b0 : Nat} {S : Nat → Prop} {h : AH} (g : GIn b0 S h) : Sl EG h (b0 + 21) (.slice (some (b0 + 21, 0)) 21 21 2 true) (hds b0 grp) :=
  (Ow.full (E := EG) 21 true _ g.2.2.2 (by have := g.1; omega) (by rw [hds_len]; rfl)).sl
theorem GIn.run {b0 : Nat} {S : Nat → Prop} {h : AH} (g : GIn b0 S h) {j : Nat} (hj : j < 21) : Sl EI h (b0 + j) (.slice (some (b0 + j, 0)) (grp[j]!).2.length (grp[j]!).2.length 1 true) (grp[j]!).2 :=
  (Ow.full (E := EI) _ true _ (g.2.2.1 j hj) (by have := g.1; omega) rfl).sl
theorem GIn.keep {b0 : Nat} {S S' : Nat → Prop} {h h' : AH} (g : GIn b0 S h) (hz : h.size ≤ h'.size) (hf : ∀ b, S b → h'.get b = h.get b) (hs : ∀ b, S b → S' b) : GIn b0 S' h' := by
  obtain ⟨h1, h2, h3, h4⟩ := g
  refine ⟨by omega, fun b k1 k2 => hs b (h2 b k1 k2), fun j hj => ?_, ?_⟩
  · rw [hf _ (h2 _ (by omega) (by omega))]; exact h3 j hj
  · rw [hf _ (h2 _ (by omega) (by omega))]; exact h4
theorem grp_even : ∀ j, j < 21 → (grp[j]!).2.length % 2 = 0 := by decide +kernel
theorem grp_max : ∀ j, j < 21 → (grp[j]!).2.length ≤ 100 ∧ ∀ i, i < (grp[j]!).2.length → (0 : Int) ≤ (grp[j]!).2[i]! ∧ ((grp[j]!).2[i]! : Int) ≤ 256 := by decide +kernel
theorem runs_drop {bits : Int} {l : List Int} {i : Nat} (h1 : i + 1 < l.length) : runsSeq bits (l.drop i) = ups (l[i]!) (l[i + 1]!) bits ++ runsSeq bits (l.drop (i + 2)) := by
  rw [drop_bang (by omega : i < l.length), drop_bang h1]; rfl
theorem EGf {a : Int} {b c : Nat} : EG.f ⟨a, b, c⟩ = [.int .i64 a, .slice (some (b, 0)) c c 1 true] := rfl
set_option maxHeartbeats 4000000 in
theorem all_iter (l : Nat) (h0 : AH) (Fin : AH → Prop) (I : (Nat → Prop) → Nat → AH → Prop)
    (hst : ∀ S S' k h1 h2, I S k h1 → h1.size ≤ h2.size → (∀ b, b < h1.size → ¬ S b → h2.get b = h1.get b) → (∀ b, S' b → S b ∨ h1.size ≤ b) → I S' k h2)
    (hi : I (fun _ => False) 0 h0)
    (hy : ∀ S k h1 s n, syms[k]? = some (s, n) → (∀ b, S b → b < h1.size) → I S k h1 → yieldW Try.prog Try.T l [.int .i64 s, .int .i64 n] h1 fun v h2 => h1.size ≤ h2.size ∧ (∀ b, S b → h2.get b = h1.get b) ∧ ((v = .bool true ∧ I S (k + 1) h2) ∨ (v = .bool false ∧ Fin h2)))
    (hf : ∀ S h1, I S syms.length h1 → Fin h1) : callW Try.prog Try.T 82 [.yield l] h0 fun _ h2 => Fin h2 := by
  refine callW_in (n := 41) (rs := []) (m := 41) Try.func82 rfl rfl rfl rfl fun tr ht => ?_; have e0 := ht 0 _ rfl; clear ht
  repeat' (first
      | with_reducible first | refine Nx.h ?_ | (refine hK _ _ ?_; clear hK K)
      | ((with_reducible refine q_eo ?_ ?_); exact rfl)
      | ((with_reducible first | (refine Ny.h ?_; intro K hK) | (refine c_drw (by decide +kernel) ?_; intro K hK) | refine c_cond ?_ | show endW _ _ _ _ _ | (refine Nz.h ?_ ?_ <;> intro _) | fail) <;> try simp (disch := first | exact dz | fail) only [go_sem, i_0, i_1, i_2, i_3, i_4, i_5, i_6, i_7, i_8, n_0, n_1, n_2, n_3, n_4, n_5, reduceCtorEq, reduceIte, e0]))
  refine callM_of (groups h0) ?_
  rintro v h1 ⟨rfl, rfl⟩
  have g0 : GIn h0.size (fun b => h0.size ≤ b) (gH h0) := ⟨by rw [gH_size]; omega, fun b hb _ => hb, fun j hj => gH_new h0 hj, gH_top h0⟩
  have i0 : I (fun b => h0.size ≤ b) 0 (gH h0) := hst _ _ _ _ _ hi (by rw [gH_size]; omega) (fun b hb _ => gH_old h0 hb) (fun b hb => .inr hb)
  have gt := g0.top
  refine vI ?_; repeat' (first
      | with_reducible first | refine Nx.h ?_ | (refine hK _ _ ?_; clear hK K)
      | ((with_reducible refine q_eo ?_ ?_); exact rfl)
      | ((with_reducible first | refine vO ?_ | (refine Ny.h ?_; intro K hK) | (refine c_drw (by decide +kernel) ?_; intro K hK) | refine c_cond ?_ | show endW _ _ _ _ _ | (refine Nz.h ?_ ?_ <;> intro _) | fail) <;> try simp (disch := first | exact dz | fail) only [go_sem, i_0, i_1, i_2, i_3, i_4, i_5, i_6, i_7, i_8, n_0, n_1, n_2, n_3, n_4, n_5, reduceCtorEq, reduceIte, e0]))
  refine c_loopF 2199023255352 (fun m tm h => ∃ (j k : Nat) (S : Nat → Prop), tm.get 8 = .int .i64 j ∧ GIn h0.size S h ∧ (∀ b, S b → b < h.size) ∧ I S k h ∧ k ≤ syms.length ∧ syms.drop k = grpSeq (grp.drop j) ∧ j ≤ 21 ∧ m = 21 - j) (21) (by kernel_rfl) ?_ ?_
  · refine ⟨0, 0, fun b => h0.size ≤ b ∧ b < (gH h0).size, ?_, ⟨by rw [gH_size]; omega, fun b hb hb2 => ⟨hb, by rw [gH_size]; omega⟩, fun j hj => gH_new h0 hj, gH_top h0⟩, fun b hb => hb.2, hst _ _ _ _ _ i0 (Nat.le_refl _) (fun _ _ _ => rfl) (fun b hb => .inl hb.1), by omega, rfl, by omega, by omega⟩
    (first | with_reducible rfl | (simp (disch := first | exact dz | fail) only [go_sem, i_0, i_1, i_2, i_3, i_4, i_5, i_6, i_7, i_8, n_0, n_1, n_2, n_3, n_4, n_5, reduceCtorEq, reduceIte] <;> first | with_reducible rfl | (congr 1 <;> omega)))
  · rintro m tr2 h2 ho ⟨j, k, S, t8, gi, hS, hI, hkl, hk, hj, rfl⟩
    have k0 := ho 0 (Seen.of rfl); simp (disch := first | exact dz | fail) only [go_sem, i_0, i_1, i_2, i_3, i_4, i_5, i_6, i_7, i_8, n_0, n_1, n_2, n_3, n_4, n_5, reduceCtorEq, reduceIte, e0] at k0; have k6 := ho 6 (Seen.of rfl); simp (disch := first | exact dz | fail) only [go_sem, i_0, i_1, i_2, i_3, i_4, i_5, i_6, i_7, i_8, n_0, n_1, n_2, n_3, n_4, n_5, reduceCtorEq, reduceIte, e0] at k6; have k7 := ho 7 (Seen.of rfl); simp (disch := first | exact dz | fail) only [go_sem, i_0, i_1, i_2, i_3, i_4, i_5, i_6, i_7, i_8, n_0, n_1, n_2, n_3, n_4, n_5, reduceCtorEq, reduceIte, e0] at k7
    by_cases hj2 : j < 21
    · have gt2 := gi.top
      have gr := gi.run hj2
      have hev := grp_even j hj2
      have hmx := grp_max j hj2
      have hd := hds_get grp h0.size j hj2
      rw [drop_bang (show j < grp.length from hj2)] at hk
      generalize hg : grp[j]! = g at *
      obtain ⟨bits, runs⟩ := g
      simp only at hev hmx gr hd
      simp only [grpSeq] at hk
      have hgl : (hds h0.size grp).length = 21 := by rw [hds_len]; rfl
      repeat' (first
      | with_reducible first | refine Nx.h ?_ | (refine hK _ _ ?_; clear hK K)
      | ((with_reducible refine q_eo ?_ ?_); exact rfl)
      | ((with_reducible first | (refine Ny.h ?_; intro K hK) | (refine c_drw (by decide +kernel) ?_; intro K hK) | refine c_cond ?_ | show endW _ _ _ _ _ | (refine Nz.h ?_ ?_ <;> intro _) | fail) <;> try simp (disch := first | exact dz | fail) only [go_sem, i_0, i_1, i_2, i_3, i_4, i_5, i_6, i_7, i_8, n_0, n_1, n_2, n_3, n_4, n_5, reduceCtorEq, reduceIte, t8, k0, k6, k7, hd, EGf]))
      generalize hh3 : ((h2.push (.cells [AV.int .i64 0, AV.slice none 0 0 0 true])).set h2.size (.cells [AV.int .i64 bits, AV.slice (some (h0.size + j, 0)) runs.length runs.length 1 true])) = h3
      have z3 : h3.size = h2.size + 1 := by rw [← hh3]; simp
      have f3 : ∀ b, b < h2.size → h3.get b = h2.get b := by intro b hb; rw [← hh3, AH.get_set, if_neg (by omega), AH.get_push, if_neg (by omega)]
      have b3 : h3.get h2.size = some (.cells [AV.int .i64 bits, AV.slice (some (h0.size + j, 0)) runs.length runs.length 1 true]) := by rw [← hh3, AH.get_set, if_pos rfl]
      refine c_loopF 1099511623728 (fun m tm h => ∃ (i k : Nat) (S : Nat → Prop), tm.get 4 = .int .i64 i ∧ GIn h0.size S h ∧ (∀ b, S b → b < h.size) ∧ S h2.size ∧ h.get h2.size = some (.cells [AV.int .i64 bits, AV.slice (some (h0.size + j, 0)) runs.length runs.length 1 true]) ∧ I S k h ∧ k ≤ syms.length ∧ syms.drop k = runsSeq bits (runs.drop i) ++ grpSeq (grp.drop (j + 1)) ∧ i ≤ runs.length ∧ i % 2 = 0 ∧ m = runs.length - i) (runs.length) (by kernel_rfl) ?_ ?_
      · refine ⟨0, k, fun b => S b ∨ b = h2.size, ?_, gi.keep (by omega) (fun b hb => f3 b (hS b hb)) (fun b hb => .inl hb), fun b hb => ?_, .inr rfl, b3, hst _ _ _ _ _ hI (by omega) (fun b hb _ => f3 b hb) (fun b hb => ?_), hkl, hk, by omega, rfl, rfl⟩
        · (first | with_reducible rfl | (simp (disch := first | exact dz | fail) only [go_sem, i_0, i_1, i_2, i_3, i_4, i_5, i_6, i_7, i_8, n_0, n_1, n_2, n_3, n_4, n_5, reduceCtorEq, reduceIte] <;> first | with_reducible rfl | (congr 1 <;> omega)))
        · rcases hb with hb | hb
          · have := hS b hb; omega
          · omega
        · rcases hb with hb | hb
          · exact .inl hb
          · right; omega
      · rintro m tr3 h4 ho3 ⟨i, k, S, t4, gi, hS, hSb, hbx, hI, hkl, hk, hi, hi2, rfl⟩
        have gr := gi.run hj2
        rw [hg] at gr
        simp only at gr
        have q0 := ho3 0 (Seen.of rfl); simp (disch := first | exact dz | fail) only [go_sem, i_0, i_1, i_2, i_3, i_4, i_5, i_6, i_7, i_8, n_0, n_1, n_2, n_3, n_4, n_5, reduceCtorEq, reduceIte, k0, t8] at q0; have q3 := ho3 3 (Seen.of rfl); simp (disch := first | exact dz | fail) only [go_sem, i_0, i_1, i_2, i_3, i_4, i_5, i_6, i_7, i_8, n_0, n_1, n_2, n_3, n_4, n_5, reduceCtorEq, reduceIte, k0, t8] at q3; have q8 := ho3 8 (Seen.of rfl); simp (disch := first | exact dz | fail) only [go_sem, i_0, i_1, i_2, i_3, i_4, i_5, i_6, i_7, i_8, n_0, n_1, n_2, n_3, n_4, n_5, reduceCtorEq, reduceIte, k0, t8] at q8
        repeat' (first
      | with_reducible first | refine Nx.h ?_ | (refine hK _ _ ?_; clear hK K)
      | ((with_reducible refine q_eo ?_ ?_); exact rfl)
      | ((with_reducible first | (refine Ny.h ?_; intro K hK) | (refine c_drw (by decide +kernel) ?_; intro K hK) | refine c_cond ?_ | show endW _ _ _ _ _ | (refine Nz.h ?_ ?_ <;> intro _) | fail) <;> try simp (disch := first | exact dz | fail) only [go_sem, i_0, i_1, i_2, i_3, i_4, i_5, i_6, i_7, i_8, n_0, n_1, n_2, n_3, n_4, n_5, reduceCtorEq, reduceIte, t4, q0, q3, q8, hbx]))
        · have hr := runs_drop (bits := bits) (show i + 1 < runs.length by omega)
          rw [hr, List.append_assoc] at hk
          have hm1 := hmx.2 i (by omega)
          have hm2 := hmx.2 (i + 1) (by omega)
          have hi1 : ((i : Int) + 1).toNat = i + 1 := by omega
          generalize hlo : runs[i]! = lo at *
          generalize hhi : runs[i + 1]! = hi' at *
          refine c_loopF 1099494850592 (fun m tm h => ∃ (s : Int) (k : Nat) (S : Nat → Prop), tm.get 5 = .int .i64 s ∧ GIn h0.size S h ∧ (∀ b, S b → b < h.size) ∧ S h2.size ∧ h.get h2.size = some (.cells [AV.int .i64 bits, AV.slice (some (h0.size + j, 0)) runs.length runs.length 1 true]) ∧ I S k h ∧ k ≤ syms.length ∧ syms.drop k = ups s hi' bits ++ (runsSeq bits (runs.drop (i + 2)) ++ grpSeq (grp.drop (j + 1))) ∧ 0 ≤ s ∧ s ≤ 257 ∧ m = (hi' + 1 - s).toNat) ((hi' + 1 - lo).toNat) (by kernel_rfl) ?_ ?_
          · refine ⟨lo, k, S, ?_, gi, hS, hSb, hbx, hI, hkl, hk, by omega, by omega, rfl⟩
            (first | with_reducible rfl | (simp (disch := first | exact dz | fail) only [go_sem, i_0, i_1, i_2, i_3, i_4, i_5, i_6, i_7, i_8, n_0, n_1, n_2, n_3, n_4, n_5, reduceCtorEq, reduceIte] <;> first | with_reducible rfl | (congr 1 <;> omega)))
          · rintro m tr4 h5 ho4 ⟨s, k, S, t5, gi, hS, hSb, hbx, hI, hkl, hk, hs0, hs1, rfl⟩
            have gr := gi.run hj2
            rw [hg] at gr
            simp only at gr
            have p0 := ho4 0 (Seen.of rfl); simp (disch := first | exact dz | fail) only [go_sem, i_0, i_1, i_2, i_3, i_4, i_5, i_6, i_7, i_8, n_0, n_1, n_2, n_3, n_4, n_5, reduceCtorEq, reduceIte, q0, q3, t4] at p0; have p3 := ho4 3 (Seen.of rfl); simp (disch := first | exact dz | fail) only [go_sem, i_0, i_1, i_2, i_3, i_4, i_5, i_6, i_7, i_8, n_0, n_1, n_2, n_3, n_4, n_5, reduceCtorEq, reduceIte, q0, q3, t4] at p3; have p4 := ho4 4 (Seen.of rfl); simp (disch := first | exact dz | fail) only [go_sem, i_0, i_1, i_2, i_3, i_4, i_5, i_6, i_7, i_8, n_0, n_1, n_2, n_3, n_4, n_5, reduceCtorEq, reduceIte, q0, q3, t4] at p4
            repeat' (first
      | with_reducible first | refine Nx.h ?_ | (refine hK _ _ ?_; clear hK K)
      | ((with_reducible refine q_eo ?_ ?_); exact rfl)
      | ((with_reducible first | (refine Ny.h ?_; intro K hK) | (refine c_drw (by decide +kernel) ?_; intro K hK) | refine c_cond ?_ | show endW _ _ _ _ _ | (refine Nz.h ?_ ?_ <;> intro _) | fail) <;> try simp (disch := first | exact dz | fail) only [go_sem, i_0, i_1, i_2, i_3, i_4, i_5, i_6, i_7, i_8, n_0, n_1, n_2, n_3, n_4, n_5, reduceCtorEq, reduceIte, t5, p0, p3, p4, hbx, hi1, hhi]))
            · rw [ups, if_pos (by omega), List.cons_append] at hk
              obtain ⟨hk1, hk2⟩ := drop_cons hk
              refine yieldM_of (hy S k h5 s bits hk1 hS hI) ?_
              rintro v h6 ⟨z6, f6, ⟨rfl, hI6⟩ | ⟨rfl, hF⟩⟩
              · refine vI ?_; repeat' (first
      | with_reducible first | refine Nx.h ?_ | (refine hK _ _ ?_; clear hK K)
      | ((with_reducible refine q_eo ?_ ?_); exact rfl)
      | ((with_reducible first | refine vO ?_ | (refine Ny.h ?_; intro K hK) | (refine c_drw (by decide +kernel) ?_; intro K hK) | refine c_cond ?_ | show endW _ _ _ _ _ | (refine Nz.h ?_ ?_ <;> intro _) | fail) <;> try simp (disch := first | exact dz | fail) only [go_sem, i_0, i_1, i_2, i_3, i_4, i_5, i_6, i_7, i_8, n_0, n_1, n_2, n_3, n_4, n_5, reduceCtorEq, reduceIte, t5, p0, p3, p4, hbx, hi1, hhi]))
                try dsimp only
                refine ⟨rfl, _, ?_, s + 1, k + 1, S, ?_, gi.keep z6 f6 (fun _ h => h), fun b hb => ?_, hSb, ?_, hI6, (List.getElem?_eq_some_iff.1 hk1).1, hk2, by omega, by omega, rfl⟩
                · omega
                · (first | with_reducible rfl | (simp (disch := first | exact dz | fail) only [go_sem, i_0, i_1, i_2, i_3, i_4, i_5, i_6, i_7, i_8, n_0, n_1, n_2, n_3, n_4, n_5, reduceCtorEq, reduceIte, t5] <;> first | with_reducible rfl | (congr 1 <;> omega)))
                · have := hS b hb; omega
                · rw [f6 _ hSb]; exact hbx
              · refine vI ?_; repeat' (first
      | with_reducible first | refine Nx.h ?_ | (refine hK _ _ ?_; clear hK K)
      | ((with_reducible refine q_eo ?_ ?_); exact rfl)
      | ((with_reducible first | refine vO ?_ | (refine Ny.h ?_; intro K hK) | (refine c_drw (by decide +kernel) ?_; intro K hK) | refine c_cond ?_ | show endW _ _ _ _ _ | (refine Nz.h ?_ ?_ <;> intro _) | fail) <;> try simp (disch := first | exact dz | fail) only [go_sem, i_0, i_1, i_2, i_3, i_4, i_5, i_6, i_7, i_8, n_0, n_1, n_2, n_3, n_4, n_5, reduceCtorEq, reduceIte, t5, p0, p3, p4, hbx, hi1, hhi]))
                exact hF
            · rw [ups, if_neg (by omega), List.nil_append] at hk
              try dsimp only
              refine ⟨rfl, _, ?_, i + 2, k, S, ?_, gi, hS, hSb, hbx, hI, hkl, hk, by omega, by omega, rfl⟩
              · omega
              · (first | with_reducible rfl | (simp (disch := first | exact dz | fail) only [go_sem, i_0, i_1, i_2, i_3, i_4, i_5, i_6, i_7, i_8, n_0, n_1, n_2, n_3, n_4, n_5, reduceCtorEq, reduceIte, p4] <;> first | with_reducible rfl | (congr 1 <;> omega)))
        · have : runs.drop i = [] := List.drop_of_length_le (by omega)
          rw [this] at hk
          try dsimp only
          refine ⟨rfl, _, ?_, j + 1, k, S, ?_, gi, hS, hI, hkl, hk, by omega, rfl⟩
          · omega
          · (first | with_reducible rfl | (simp (disch := first | exact dz | fail) only [go_sem, i_0, i_1, i_2, i_3, i_4, i_5, i_6, i_7, i_8, n_0, n_1, n_2, n_3, n_4, n_5, reduceCtorEq, reduceIte, q8] <;> first | with_reducible rfl | (congr 1 <;> omega)))
    · have : j = 21 := by omega
      subst this
      have hk0 : syms.drop k = [] := hk
      have hgl : (hds h0.size grp).length = 21 := by rw [hds_len]; rfl
      repeat' (first
      | with_reducible first | refine Nx.h ?_ | (refine hK _ _ ?_; clear hK K)
      | ((with_reducible refine q_eo ?_ ?_); exact rfl)
      | ((with_reducible first | (refine Ny.h ?_; intro K hK) | (refine c_drw (by decide +kernel) ?_; intro K hK) | refine c_cond ?_ | show endW _ _ _ _ _ | (refine Nz.h ?_ ?_ <;> intro _) | fail) <;> try simp (disch := first | exact dz | fail) only [go_sem, i_0, i_1, i_2, i_3, i_4, i_5, i_6, i_7, i_8, n_0, n_1, n_2, n_3, n_4, n_5, reduceCtorEq, reduceIte, t8, k7]))
      have := drop_nil hk0 hkl
      subst this
      exact hf _ _ hI
end Go.Proofs.Ytmpeofjfagdgkaa
