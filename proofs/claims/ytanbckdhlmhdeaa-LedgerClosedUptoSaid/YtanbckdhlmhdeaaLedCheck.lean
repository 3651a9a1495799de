/- ledger: notes that come in; New, Check. -/
import Derived.Test.YtanbckdhlmhdeaaLedWf
import Derived.Test.YtanbckdhlmhdeaaUpto
set_option linter.unusedSimpArgs false
set_option linter.unusedVariables false
namespace Go.Proofs.Ytanbckdhlmhdeaa
open Go.Abs
set_option maxRecDepth 100000
/-- A note whose slices are values. -/
structure Nq where
  n : Nt
  h1 : n.fv.one = true
  h2 : n.dv.one = true
instance : Inhabited Nq := ⟨⟨⟨0, 0, 0, .bool false, [], .bool false, [], false, 0, 0⟩, rfl, rfl⟩⟩
def EN : Enc Nq := ⟨8, fun x => nC x.n, by decide, fun _ => rfl, fun x => by simp only [nC, List.all_cons, List.all_nil, x.h1, x.h2, one_int, one_bool, Bool.and_true]⟩
def WfN (x : Nq) : Prop := (∀ h, NtOk h x.n) ∧ NtB x.n ∧ (-9223372036854775808 ≤ x.n.id ∧ x.n.id ≤ 9223372036854775807)
theorem dat_fieldsU {n i : Nat} {v : AV} (hd : DatU Try.T (n + 3) 32 [v]) : ∃ l, Sl EF AH.empty i v l ∧ l.length ≤ 1048576 := by
  obtain ⟨l, h1, _, h2⟩ := dat_sliceB (E := EF) (Wf := fun _ => True) (h := AH.empty) (i := i) Try.Td32 (fun c hc => by
    obtain ⟨v0, g0, d0⟩ := datB_f1 (b := true) (ft := 9) (off := 0) Try.Td53 hc (by simp) rfl (by decide)
    obtain ⟨v1, g1, d1⟩ := datB_f1 (b := true) (ft := 9) (off := 1) Try.Td53 hc (by simp) rfl (by decide)
    obtain ⟨v2, g2, d2⟩ := datB_f1 (b := true) (ft := 4) (off := 2) Try.Td53 hc (by simp) rfl (by decide)
    obtain ⟨x, rfl, _⟩ := datB_str rfl d0
    obtain ⟨y, rfl, _⟩ := datB_str rfl d1
    obtain ⟨z, rfl⟩ := datB_bool rfl d2
    exact ⟨(x, y, z), list_3 (dat_len Try.Td53 hc.dat) g0 g1 g2, trivial⟩) rfl hd
  refine ⟨l, h1, ?_⟩
  rcases h2 with rfl | ⟨c, h3, h4⟩
  · simp
  · omega
theorem dat_bytesU {n i : Nat} {v : AV} (hd : DatU Try.T (n + 2) 33 [v]) : ∃ l, Sl E8 AH.empty i v l ∧ l.length ≤ 1048576 := by
  obtain ⟨l, h1, _, h2⟩ := dat_sliceB (E := E8) (Wf := fun _ => True) (h := AH.empty) (i := i) Try.Td33 (fun c hc => dat_e8 (n := n) rfl hc.dat) rfl hd
  refine ⟨l, h1, ?_⟩
  rcases h2 with rfl | ⟨c, h3, h4⟩
  · simp
  · omega
theorem list_8 {α : Type} {l : List α} {a b c d e f g h : α} (hl : l.length = 8) (h0 : l[0]? = some a) (h1 : l[1]? = some b) (h2 : l[2]? = some c) (h3 : l[3]? = some d) (h4 : l[4]? = some e) (h5 : l[5]? = some f) (h6 : l[6]? = some g) (h7 : l[7]? = some h) : l = [a, b, c, d, e, f, g, h] := by
  match l, hl with
  | [x0, x1, x2, x3, x4, x5, x6, x7], _ => simp at h0 h1 h2 h3 h4 h5 h6 h7; simp [h0, h1, h2, h3, h4, h5, h6, h7]
theorem dat_noteU {n : Nat} {c : List AV} (hd : DatU Try.T (n + 5) 37 c) : ∃ x, c = EN.f x ∧ WfN x := by
  obtain ⟨v0, g0, d0⟩ := datB_f1 (b := true) (ft := 3) (off := 0) Try.Td37 hd (by simp) rfl (by decide)
  have hlen := dat_len Try.Td37 hd.dat
  have he := datB_fn (b := true) (ft := 35) (off := 1) Try.Td37 hd (by simp)
  have hsz : (Try.T 35).size = 7 := rfl
  have hs8 : (Try.T 37).size = 8 := rfl
  rw [hsz] at he
  rw [hs8] at hlen
  have sub : ∀ (k : Nat) (v : AV), k < 7 → ((c.drop 1).take 7)[k]? = some v → c[k + 1]? = some v := fun k v hk h => by
    rw [List.getElem?_take, if_pos hk, List.getElem?_drop] at h
    rw [Nat.add_comm k 1]; exact h
  obtain ⟨w0, a0, b0⟩ := datB_f1 (b := true) (ft := 3) (off := 0) Try.Td35 he (by simp) rfl (by decide)
  obtain ⟨w1, a1, b1⟩ := datB_f1 (b := true) (ft := 3) (off := 1) Try.Td35 he (by simp) rfl (by decide)
  obtain ⟨w2, a2, b2⟩ := datB_f1 (b := true) (ft := 32) (off := 2) Try.Td35 he (by simp) rfl (by decide)
  obtain ⟨w3, a3, b3⟩ := datB_f1 (b := true) (ft := 33) (off := 3) Try.Td35 he (by simp) rfl (by decide)
  obtain ⟨w4, a4, b4⟩ := datB_f1 (b := true) (ft := 4) (off := 4) Try.Td35 he (by simp) rfl (by decide)
  obtain ⟨w5, a5, b5⟩ := datB_f1 (b := true) (ft := 2) (off := 5) Try.Td35 he (by simp) rfl (by decide)
  obtain ⟨w6, a6, b6⟩ := datB_f1 (b := true) (ft := 3) (off := 6) Try.Td35 he (by simp) rfl (by decide)
  obtain ⟨x0, rfl, _⟩ := datB_int rfl d0
  obtain ⟨y0, rfl, _⟩ := datB_int rfl b0
  obtain ⟨y1, rfl, hy1⟩ := datB_int rfl b1
  obtain ⟨fs, sf, lf⟩ := dat_fieldsU (n := n) (i := 0) b2
  obtain ⟨ds, sd, ld⟩ := dat_bytesU (n := n + 1) (i := 0) b3
  obtain ⟨y4, rfl⟩ := datB_bool rfl b4
  obtain ⟨y5, rfl, _⟩ := datB_int rfl b5
  obtain ⟨y6, rfl, _⟩ := datB_int rfl b6
  refine ⟨⟨⟨x0, y0, y1, w2, fs, w3, ds, y4, y5, y6⟩, sf.one, sd.one⟩, ?_, fun h => ⟨⟨0, sf.any h 0⟩, ⟨0, sd.any h 0⟩, lf, ld⟩, ⟨lf, ld⟩, wf_i64 hy1⟩
  exact list_8 hlen g0 (sub 0 _ (by omega) a0) (sub 1 _ (by omega) a1) (sub 2 _ (by omega) a2) (sub 3 _ (by omega) a3) (sub 4 _ (by omega) a4) (sub 5 _ (by omega) a5) (sub 6 _ (by omega) a6)
/-- Notes one behind the other. -/
noncomputable def run : Sg → List Nt → Option Sg
  | s, [] => some s
  | s, n :: r => match noteC s n with
    | none => none
    | some s' => run s' r
theorem run_snoc : ∀ (l : List Nt) (s : Sg) (n : Nt), run s (l ++ [n]) = (run s l).bind fun s' => noteC s' n
  | [], s, n => by
    simp only [List.nil_append, run, Option.bind_some]
    cases noteC s n <;> rfl
  | x :: l, s, n => by
    simp only [List.cons_append, run]
    cases noteC s x with
    | none => rfl
    | some s' => exact run_snoc l s' n
def s0 : Sg := { l := [], cl := false, sv := false }
theorem new (h0 : AH) : callW Try.prog Try.T 10 [] h0 fun v h' => v = .ptr (some (h0.size, 0)) ∧ h' = h0.push (.cells [.slice none 0 0 0 true, .bool false, .bool false, .bool false]) := by
  refine callW_in (n := 3) (rs := [.tmp 0]) (m := 3) Try.func10 rfl rfl rfl rfl fun tr ht => ?_; clear ht
  repeat' (first
      | (with_reducible first | refine q_nn ?_ | refine q_nr ?_ | refine q_ne ?_ | refine q_en ?_ | refine q_er ?_ | refine q_es ?_ | refine q_gn ?_ | refine q_gr ?_ | refine q_ge ?_ | refine c_seq ?_ | refine c_block ?_ | refine c_scope ?_ | refine c_skip ?_ | refine c_label ?_ | refine c_ret ?_ | refine c_exit ?_ | (refine hK _ _ ?_; clear hK K) | refine seg_nil ?_) | ((with_reducible refine q_eo ?_ ?_); exact rfl)
      | ((with_reducible first | refine c_reg fun K hK => ?_ | refine c_drw (by decide +kernel) fun K hK => ?_ | refine c_cond ?_ | refine seg_cons fun K hK => ?_ | show endW _ _ _ _ _ | refine ifb_dec (fun _ => ?_) (fun _ => ?_) | refine ifb_ieq (fun _ => ?_) (fun _ => ?_) | refine ifb_seq (fun _ => ?_) (fun _ => ?_)) <;> try simp (disch := first | (with_unfolding_all first | exact Lk.mk rfl | exact Seen.of rfl) | assumption | (fail_if_success with_reducible first | refine Seen.of ?_ | apply Sl.frame | apply Ow.frame); omega) only [go_sem, Int.reduceEq, Int.reduceLE, Int.reduceLT, Int.reduceNe, Int.reduceNeg, Int.reduceAdd, Int.reduceSub, Int.reduceMul, Int.reduceToNat, Nat.reduceLT, Nat.reduceLeDiff, Nat.reduceEqDiff, Nat.reduceAdd, Nat.reduceSub, Nat.reduceMul, reduceCtorEq, reduceIte]))
theorem newLg (h0 : AH) : LgC (fun x => if x = h0.size then 1 else 0) (h0.push (.cells [.slice none 0 0 0 true, .bool false, .bool false, .bool false])) h0.size s0 :=
  ⟨_, none, [], by rw [AH.get_push, if_pos rfl]; rfl, by simp, by simp, .nil _ _, by simp, rfl, fun k r b h => by simp [s0] at h⟩
theorem wk0 : Wk s0 0 := ⟨by simp [s0], by simp [s0]⟩
/-- How many notes may happen, and whether all may. -/
def ChkR (ns : List Nt) (k : Nat) (fine : Bool) : Prop := (∃ s, run s0 (ns.take k) = some s ∧ (k < ns.length ∧ fine = false ∧ (∀ n, ns[k]? = some n → noteC s n = none) ∨ k = ns.length ∧ fine = true))
set_option maxHeartbeats 4000000 in
theorem check (a : AV) (i : Nat) (ns : List Nq) (h0 : AH) (ha : Sl EN h0 i a ns) (hw : ∀ x ∈ ns, WfN x) (hl : ns.length ≤ 300) :
    callW Try.prog Try.T 16 [a] h0 fun v h' => ∃ k fine, v = .tuple [.int .i64 (k : Nat), .bool fine] ∧ ChkR (ns.map (·.n)) k fine ∧ Keeps h0.size h0 h' := by
  refine callW_hide fun KK hKK => ?_
  refine callW_in (n := 23) (rs := [.tmp 2, .tmp 3]) (m := 23) Try.func16 rfl rfl rfl rfl fun tr ht => ?_; have e0 := ht 0 _ rfl; clear ht
  repeat' (first
      | (with_reducible first | refine q_nn ?_ | refine q_nr ?_ | refine q_ne ?_ | refine q_en ?_ | refine q_er ?_ | refine q_es ?_ | refine q_gn ?_ | refine q_gr ?_ | refine q_ge ?_ | refine c_seq ?_ | refine c_block ?_ | refine c_scope ?_ | refine c_skip ?_ | refine c_label ?_ | refine c_ret ?_ | refine c_exit ?_ | (refine hK _ _ ?_; clear hK K) | refine seg_nil ?_) | ((with_reducible refine q_eo ?_ ?_); exact rfl)
      | ((with_reducible first | refine c_reg fun K hK => ?_ | refine c_drw (by decide +kernel) fun K hK => ?_ | refine c_cond ?_ | refine seg_cons fun K hK => ?_ | show endW _ _ _ _ _ | refine ifb_dec (fun _ => ?_) (fun _ => ?_) | refine ifb_ieq (fun _ => ?_) (fun _ => ?_) | refine ifb_seq (fun _ => ?_) (fun _ => ?_)) <;> try simp (disch := first | (with_unfolding_all first | exact Lk.mk rfl | exact Seen.of rfl) | assumption | (fail_if_success with_reducible first | refine Seen.of ?_ | apply Sl.frame | apply Ow.frame); omega) only [go_sem, Int.reduceEq, Int.reduceLE, Int.reduceLT, Int.reduceNe, Int.reduceNeg, Int.reduceAdd, Int.reduceSub, Int.reduceMul, Int.reduceToNat, Nat.reduceLT, Nat.reduceLeDiff, Nat.reduceEqDiff, Nat.reduceAdd, Nat.reduceSub, Nat.reduceMul, reduceCtorEq, reduceIte, e0]))
  refine callM_of (new h0) ?_
  rintro v h1 ⟨rfl, hh1⟩
  have hl1 := newLg h0
  rw [← hh1] at hl1
  have z1 : h1.size = h0.size + 1 := by rw [hh1]; simp (disch := first | (with_unfolding_all first | exact Lk.mk rfl | exact Seen.of rfl) | assumption | (fail_if_success with_reducible first | refine Seen.of ?_ | apply Sl.frame | apply Ow.frame); omega) only [go_sem, Int.reduceEq, Int.reduceLE, Int.reduceLT, Int.reduceNe, Int.reduceNeg, Int.reduceAdd, Int.reduceSub, Int.reduceMul, Int.reduceToNat, Nat.reduceLT, Nat.reduceLeDiff, Nat.reduceEqDiff, Nat.reduceAdd, Nat.reduceSub, Nat.reduceMul, reduceCtorEq, reduceIte]
  have k1 : Keeps h0.size h0 h1 := by rw [hh1]; exact (Keeps.refl _ _).push (Nat.le_refl _) _
  clear hh1
  refine vI ?_; repeat' (first
      | (with_reducible first | refine q_nn ?_ | refine q_nr ?_ | refine q_ne ?_ | refine q_en ?_ | refine q_er ?_ | refine q_es ?_ | refine q_gn ?_ | refine q_gr ?_ | refine q_ge ?_ | refine c_seq ?_ | refine c_block ?_ | refine c_scope ?_ | refine c_skip ?_ | refine c_label ?_ | refine c_ret ?_ | refine c_exit ?_ | (refine hK _ _ ?_; clear hK K) | refine seg_nil ?_) | ((with_reducible refine q_eo ?_ ?_); exact rfl)
      | ((with_reducible first | refine vO ?_ | refine c_reg fun K hK => ?_ | refine c_drw (by decide +kernel) fun K hK => ?_ | refine c_cond ?_ | refine seg_cons fun K hK => ?_ | show endW _ _ _ _ _ | refine ifb_dec (fun _ => ?_) (fun _ => ?_) | refine ifb_ieq (fun _ => ?_) (fun _ => ?_) | refine ifb_seq (fun _ => ?_) (fun _ => ?_)) <;> try simp (disch := first | (with_unfolding_all first | exact Lk.mk rfl | exact Seen.of rfl) | assumption | (fail_if_success with_reducible first | refine Seen.of ?_ | apply Sl.frame | apply Ow.frame); omega) only [go_sem, Int.reduceEq, Int.reduceLE, Int.reduceLT, Int.reduceNe, Int.reduceNeg, Int.reduceAdd, Int.reduceSub, Int.reduceMul, Int.reduceToNat, Nat.reduceLT, Nat.reduceLeDiff, Nat.reduceEqDiff, Nat.reduceAdd, Nat.reduceSub, Nat.reduceMul, reduceCtorEq, reduceIte, e0]))
  refine c_loopF 2096236 (fun m tm h => ∃ (k : Nat) (s : Sg) (O : Nat → Nat), tm.get 10 = .int .i64 k ∧ k ≤ ns.length ∧ run s0 ((ns.map (·.n)).take k) = some s ∧ Wk s k ∧ LgC O h h0.size s ∧ (∀ x, x < h0.size → O x = 0) ∧ Keeps h0.size h0 h ∧ h0.size < h.size ∧ m = ns.length - k) (ns.length) (by kernel_rfl) ?_ ?_
  · refine ⟨0, s0, _, ?_, by omega, by simp [run], wk0, hl1, fun x hx => if_neg (by omega), k1, by omega, rfl⟩
    (first | with_reducible rfl | (simp (disch := first | (with_unfolding_all first | exact Lk.mk rfl | exact Seen.of rfl) | assumption | (fail_if_success with_reducible first | refine Seen.of ?_ | apply Sl.frame | apply Ow.frame); omega) only [go_sem, Int.reduceEq, Int.reduceLE, Int.reduceLT, Int.reduceNe, Int.reduceNeg, Int.reduceAdd, Int.reduceSub, Int.reduceMul, Int.reduceToNat, Nat.reduceLT, Nat.reduceLeDiff, Nat.reduceEqDiff, Nat.reduceAdd, Nat.reduceSub, Nat.reduceMul, reduceCtorEq, reduceIte] <;> first | with_reducible rfl | (congr 1 <;> omega)))
  · rintro m tr2 h2 ho ⟨k, s, O, t10, hk, hrun, hwk, hlg, hO, hk2, hz2, rfl⟩
    have k0 := ho 0 (Seen.of rfl); simp (disch := first | (with_unfolding_all first | exact Lk.mk rfl | exact Seen.of rfl) | assumption | (fail_if_success with_reducible first | refine Seen.of ?_ | apply Sl.frame | apply Ow.frame); omega) only [go_sem, Int.reduceEq, Int.reduceLE, Int.reduceLT, Int.reduceNe, Int.reduceNeg, Int.reduceAdd, Int.reduceSub, Int.reduceMul, Int.reduceToNat, Nat.reduceLT, Nat.reduceLeDiff, Nat.reduceEqDiff, Nat.reduceAdd, Nat.reduceSub, Nat.reduceMul, reduceCtorEq, reduceIte, e0] at k0; have k4 := ho 4 (Seen.of rfl); simp (disch := first | (with_unfolding_all first | exact Lk.mk rfl | exact Seen.of rfl) | assumption | (fail_if_success with_reducible first | refine Seen.of ?_ | apply Sl.frame | apply Ow.frame); omega) only [go_sem, Int.reduceEq, Int.reduceLE, Int.reduceLT, Int.reduceNe, Int.reduceNeg, Int.reduceAdd, Int.reduceSub, Int.reduceMul, Int.reduceToNat, Nat.reduceLT, Nat.reduceLeDiff, Nat.reduceEqDiff, Nat.reduceAdd, Nat.reduceSub, Nat.reduceMul, reduceCtorEq, reduceIte, e0] at k4; have k8 := ho 8 (Seen.of rfl); simp (disch := first | (with_unfolding_all first | exact Lk.mk rfl | exact Seen.of rfl) | assumption | (fail_if_success with_reducible first | refine Seen.of ?_ | apply Sl.frame | apply Ow.frame); omega) only [go_sem, Int.reduceEq, Int.reduceLE, Int.reduceLT, Int.reduceNe, Int.reduceNeg, Int.reduceAdd, Int.reduceSub, Int.reduceMul, Int.reduceToNat, Nat.reduceLT, Nat.reduceLeDiff, Nat.reduceEqDiff, Nat.reduceAdd, Nat.reduceSub, Nat.reduceMul, reduceCtorEq, reduceIte, e0] at k8; have k9 := ho 9 (Seen.of rfl); simp (disch := first | (with_unfolding_all first | exact Lk.mk rfl | exact Seen.of rfl) | assumption | (fail_if_success with_reducible first | refine Seen.of ?_ | apply Sl.frame | apply Ow.frame); omega) only [go_sem, Int.reduceEq, Int.reduceLE, Int.reduceLT, Int.reduceNe, Int.reduceNeg, Int.reduceAdd, Int.reduceSub, Int.reduceMul, Int.reduceToNat, Nat.reduceLT, Nat.reduceLeDiff, Nat.reduceEqDiff, Nat.reduceAdd, Nat.reduceSub, Nat.reduceMul, reduceCtorEq, reduceIte, e0] at k9
    have s2 : Sl EN h2 i a ns := ha.frame (fun hi => hk2.2 i hi) hk2.1
    by_cases hc : k < ns.length
    · have hwn : WfN (ns[k]!) := by rw [getElem!_pos ns k hc]; exact hw _ (List.getElem_mem _)
      obtain ⟨wn1, wn2, wn3⟩ := hwn
      have hnk : (ns.map (·.n))[k]? = some (ns[k]!).n := by rw [List.getElem?_map, bang_some hc]; rfl
      have hEN : EN.f (ns[k]!) = nC (ns[k]!).n := rfl
      have of := (ns[k]!).h1
      have od := (ns[k]!).h2
      obtain ⟨n, hnn⟩ : ∃ n, n = (ns[k]!).n := ⟨_, rfl⟩
      rw [← hnn] at wn1 wn2 wn3 hnk hEN of od
      clear hnn
      unfold nC at hEN
      repeat' (first
      | (with_reducible first | refine q_nn ?_ | refine q_nr ?_ | refine q_ne ?_ | refine q_en ?_ | refine q_er ?_ | refine q_es ?_ | refine q_gn ?_ | refine q_gr ?_ | refine q_ge ?_ | refine c_seq ?_ | refine c_block ?_ | refine c_scope ?_ | refine c_skip ?_ | refine c_label ?_ | refine c_ret ?_ | refine c_exit ?_ | (refine hK _ _ ?_; clear hK K) | refine seg_nil ?_) | ((with_reducible refine q_eo ?_ ?_); exact rfl)
      | ((with_reducible first | refine c_reg fun K hK => ?_ | refine c_drw (by decide +kernel) fun K hK => ?_ | refine c_cond ?_ | refine seg_cons fun K hK => ?_ | show endW _ _ _ _ _ | refine ifb_dec (fun _ => ?_) (fun _ => ?_) | refine ifb_ieq (fun _ => ?_) (fun _ => ?_) | refine ifb_seq (fun _ => ?_) (fun _ => ?_)) <;> try simp (disch := first | (with_unfolding_all first | exact Lk.mk rfl | exact Seen.of rfl) | assumption | (fail_if_success with_reducible first | refine Seen.of ?_ | apply Sl.frame | apply Ow.frame); omega) only [go_sem, Int.reduceEq, Int.reduceLE, Int.reduceLT, Int.reduceNe, Int.reduceNeg, Int.reduceAdd, Int.reduceSub, Int.reduceMul, Int.reduceToNat, Nat.reduceLT, Nat.reduceLeDiff, Nat.reduceEqDiff, Nat.reduceAdd, Nat.reduceSub, Nat.reduceMul, reduceCtorEq, reduceIte, k0, k4, k8, k9, t10, hEN, of, od]))
      refine cM_hide fun h3 hh3 => ?_
      have k3 : Keeps h2.size h2 h3 := by rw [hh3]; exact ((Keeps.refl _ _).push (Nat.le_refl _) _).set (Nat.le_refl _) _
      clear hh3
      have z3 := k3.1
      refine callM_of (note (O1 O h2) h0.size s n h3 (hlg.after k3) (wn1 h3) (hwk.wf (by omega)) wn3) ?_
      rintro v h4 ⟨rfl, z4, f4, O', a4, hl4⟩
      have old : ∀ b, b < h0.size → O1 O h2 b = 0 := fun b hb => by unfold O1; rw [if_pos (by omega)]; exact hO b hb
      have k4' : Keeps h0.size h0 h4 := ⟨by have := hk2.1; omega, fun b hb => by rw [f4 b (by omega) (old b hb), k3.2 b (by omega), hk2.2 b hb]⟩
      cases hst : noteC s n with
      | none =>
        rw [hst] at hl4
        refine vI ?_; repeat' (first
      | (with_reducible first | refine q_nn ?_ | refine q_nr ?_ | refine q_ne ?_ | refine q_en ?_ | refine q_er ?_ | refine q_es ?_ | refine q_gn ?_ | refine q_gr ?_ | refine q_ge ?_ | refine c_seq ?_ | refine c_block ?_ | refine c_scope ?_ | refine c_skip ?_ | refine c_label ?_ | refine c_ret ?_ | refine c_exit ?_ | (refine hK _ _ ?_; clear hK K) | refine seg_nil ?_) | ((with_reducible refine q_eo ?_ ?_); exact rfl)
      | ((with_reducible first | refine vO ?_ | refine c_reg fun K hK => ?_ | refine c_drw (by decide +kernel) fun K hK => ?_ | refine c_cond ?_ | refine seg_cons fun K hK => ?_ | show endW _ _ _ _ _ | refine ifb_dec (fun _ => ?_) (fun _ => ?_) | refine ifb_ieq (fun _ => ?_) (fun _ => ?_) | refine ifb_seq (fun _ => ?_) (fun _ => ?_)) <;> try simp (disch := first | (with_unfolding_all first | exact Lk.mk rfl | exact Seen.of rfl) | assumption | (fail_if_success with_reducible first | refine Seen.of ?_ | apply Sl.frame | apply Ow.frame); omega) only [go_sem, Int.reduceEq, Int.reduceLE, Int.reduceLT, Int.reduceNe, Int.reduceNeg, Int.reduceAdd, Int.reduceSub, Int.reduceMul, Int.reduceToNat, Nat.reduceLT, Nat.reduceLeDiff, Nat.reduceEqDiff, Nat.reduceAdd, Nat.reduceSub, Nat.reduceMul, reduceCtorEq, reduceIte, k0, k4, k8, k9, t10, Option.isSome_none, Option.isSome_some]))
        refine hKK _ _ ⟨k, false, rfl, ⟨s, hrun, .inl ⟨by simpa using hc, rfl, fun m hm => ?_⟩⟩, k4'⟩
        rw [hnk] at hm; cases hm; exact hst
      | some s' =>
        rw [hst] at hl4
        refine vI ?_; repeat' (first
      | (with_reducible first | refine q_nn ?_ | refine q_nr ?_ | refine q_ne ?_ | refine q_en ?_ | refine q_er ?_ | refine q_es ?_ | refine q_gn ?_ | refine q_gr ?_ | refine q_ge ?_ | refine c_seq ?_ | refine c_block ?_ | refine c_scope ?_ | refine c_skip ?_ | refine c_label ?_ | refine c_ret ?_ | refine c_exit ?_ | (refine hK _ _ ?_; clear hK K) | refine seg_nil ?_) | ((with_reducible refine q_eo ?_ ?_); exact rfl)
      | ((with_reducible first | refine vO ?_ | refine c_reg fun K hK => ?_ | refine c_drw (by decide +kernel) fun K hK => ?_ | refine c_cond ?_ | refine seg_cons fun K hK => ?_ | show endW _ _ _ _ _ | refine ifb_dec (fun _ => ?_) (fun _ => ?_) | refine ifb_ieq (fun _ => ?_) (fun _ => ?_) | refine ifb_seq (fun _ => ?_) (fun _ => ?_)) <;> try simp (disch := first | (with_unfolding_all first | exact Lk.mk rfl | exact Seen.of rfl) | assumption | (fail_if_success with_reducible first | refine Seen.of ?_ | apply Sl.frame | apply Ow.frame); omega) only [go_sem, Int.reduceEq, Int.reduceLE, Int.reduceLT, Int.reduceNe, Int.reduceNeg, Int.reduceAdd, Int.reduceSub, Int.reduceMul, Int.reduceToNat, Nat.reduceLT, Nat.reduceLeDiff, Nat.reduceEqDiff, Nat.reduceAdd, Nat.reduceSub, Nat.reduceMul, reduceCtorEq, reduceIte, k0, k4, k8, k9, t10, Option.isSome_none, Option.isSome_some]))
        try dsimp only
        refine ⟨rfl, ns.length - (k + 1), by omega, k + 1, s', O', ?_, by omega, ?_, noteC_wf hwk wn2 hst, hl4, fun x hx => by rw [a4 x (by omega)]; exact old x hx, k4', by omega, rfl⟩
        · (first | with_reducible rfl | (simp (disch := first | (with_unfolding_all first | exact Lk.mk rfl | exact Seen.of rfl) | assumption | (fail_if_success with_reducible first | refine Seen.of ?_ | apply Sl.frame | apply Ow.frame); omega) only [go_sem, Int.reduceEq, Int.reduceLE, Int.reduceLT, Int.reduceNe, Int.reduceNeg, Int.reduceAdd, Int.reduceSub, Int.reduceMul, Int.reduceToNat, Nat.reduceLT, Nat.reduceLeDiff, Nat.reduceEqDiff, Nat.reduceAdd, Nat.reduceSub, Nat.reduceMul, reduceCtorEq, reduceIte, t10] <;> first | with_reducible rfl | (congr 1 <;> omega)))
        · rw [List.take_add_one, hnk]
          simp only [Option.toList_some]
          rw [run_snoc, hrun]; exact hst
    · repeat' (first
      | (with_reducible first | refine q_nn ?_ | refine q_nr ?_ | refine q_ne ?_ | refine q_en ?_ | refine q_er ?_ | refine q_es ?_ | refine q_gn ?_ | refine q_gr ?_ | refine q_ge ?_ | refine c_seq ?_ | refine c_block ?_ | refine c_scope ?_ | refine c_skip ?_ | refine c_label ?_ | refine c_ret ?_ | refine c_exit ?_ | (refine hK _ _ ?_; clear hK K) | refine seg_nil ?_) | ((with_reducible refine q_eo ?_ ?_); exact rfl)
      | ((with_reducible first | refine c_reg fun K hK => ?_ | refine c_drw (by decide +kernel) fun K hK => ?_ | refine c_cond ?_ | refine seg_cons fun K hK => ?_ | show endW _ _ _ _ _ | refine ifb_dec (fun _ => ?_) (fun _ => ?_) | refine ifb_ieq (fun _ => ?_) (fun _ => ?_) | refine ifb_seq (fun _ => ?_) (fun _ => ?_)) <;> try simp (disch := first | (with_unfolding_all first | exact Lk.mk rfl | exact Seen.of rfl) | assumption | (fail_if_success with_reducible first | refine Seen.of ?_ | apply Sl.frame | apply Ow.frame); omega) only [go_sem, Int.reduceEq, Int.reduceLE, Int.reduceLT, Int.reduceNe, Int.reduceNeg, Int.reduceAdd, Int.reduceSub, Int.reduceMul, Int.reduceToNat, Nat.reduceLT, Nat.reduceLeDiff, Nat.reduceEqDiff, Nat.reduceAdd, Nat.reduceSub, Nat.reduceMul, reduceCtorEq, reduceIte, k0, k4, k8, k9, t10]))
      have hkk : k = ns.length := by omega
      subst hkk
      exact hKK _ _ ⟨ns.length, true, rfl, ⟨s, hrun, .inr ⟨by simp, rfl⟩⟩, hk2⟩
end Go.Proofs.Ytanbckdhlmhdeaa
