/- ledger: what the code does to one request: given, tells, rules, start, answers, headers. -/
import Derived.Test.YtanbckdhlmhdeaaLedLeaf
set_option linter.unusedSimpArgs false
set_option linter.unusedVariables false
namespace Go.Proofs.Ytanbckdhlmhdeaa
open Go.Abs
set_option maxRecDepth 100000
/-- A request's cells, the code's. -/
def cC (r : Rq) (v1 v2 v3 v4 : AV) : List AV := [.int .i64 r.id, .int .i64 r.verdict, v1, .bool r.ask.first, .bool r.ask.told, v2, .int .i64 r.ask.pos, .bool r.ask.ended, .bool r.ask.over, .bool r.ans.has, v3, .bool r.ans.first, .bool r.ans.told, v4, .int .i64 r.ans.pos, .bool r.ans.ended, .bool r.ans.over]
def giveW (w : Wy) (d : List UInt8) (e : Bool) : Wy := { w with bytes := w.bytes ++ d, ended := e }
def fieldW (w : Wy) (e : Bool) : Wy := { w with told := true, over := e }
def dataW (w : Wy) (d : List UInt8) (e : Bool) : Wy := { w with pos := w.pos + d.length, over := e }
/-- May bytes be told? -/
def dataOk (w : Wy) (d : List UInt8) (e : Bool) : Prop := w.over = false ∧ d <+: w.bytes.drop w.pos ∧ (e = true → w.ended = true ∧ w.pos + d.length = w.bytes.length)
/-- All but one block and a slice's as they were. -/
def But (b : Nat) (g : Option Nat) (h h' : AH) : Prop := h.size ≤ h'.size ∧ ∀ x, x < h.size → ¬ x = b → ¬ g = some x → h'.get x = h.get x
theorem But.refl (b : Nat) (g : Option Nat) (h : AH) : But b g h h := ⟨Nat.le_refl _, fun _ _ _ _ => rfl⟩
theorem prefix_drop {d l : List UInt8} {n : Nat} (h : d <+: l.drop n) (hn : n ≤ l.length) : n + d.length ≤ l.length := by
  have := h.length_le
  rw [List.length_drop] at this; omega
set_option maxHeartbeats 4000000 in
theorem givenask (b j : Nat) (g2 : Option Nat) (r : Rq) (v1 v2 v3 v4 dv : AV) (d : List UInt8) (e : Bool) (h0 : AH) (hc : h0.get b = some (.cells (cC r v1 v2 v3 v4))) (hb : b < h0.size) (ho : OwN E8 h0 g2 v2 r.ask.bytes) (hg : ¬ g2 = some b) (hd : Sl E8 h0 j dv d) (hl : r.ask.bytes.length + d.length < 100000000000000) :
    callW Try.prog Try.T 31 [.ptr (some (b, 5)), dv, .bool e] h0 fun v h' => r.ask.ended = true ∧ v = .bool false ∧ h' = h0 ∨ r.ask.ended = false ∧ v = .bool true ∧ But b g2 h0 h' ∧ ∃ z g', h'.get b = some (.cells (cC { r with ask := giveW r.ask d e } v1 z v3 v4)) ∧ OwN E8 h' g' z (r.ask.bytes ++ d) ∧ (g' = none ∨ g' = g2 ∨ ∃ i, g' = some i ∧ h0.size ≤ i) := by
  unfold cC at hc
  refine callW_hide fun KK hKK => ?_
  refine callW_in (n := 24) (rs := [.tmp 6]) (m := 24) Try.func31 rfl rfl rfl rfl fun tr ht => ?_; have e0 := ht 0 _ rfl; have e1 := ht 1 _ rfl; have e2 := ht 2 _ rfl; clear ht
  cases he : r.ask.ended with
  | true =>
    repeat' (first
      | (with_reducible first | refine q_nn ?_ | refine q_nr ?_ | refine q_ne ?_ | refine q_en ?_ | refine q_er ?_ | refine q_es ?_ | refine q_gn ?_ | refine q_gr ?_ | refine q_ge ?_ | refine c_seq ?_ | refine c_block ?_ | refine c_scope ?_ | refine c_skip ?_ | refine c_label ?_ | refine c_ret ?_ | refine c_exit ?_ | (refine hK _ _ ?_; clear hK K) | refine seg_nil ?_) | ((with_reducible refine q_eo ?_ ?_); exact rfl)
      | ((with_reducible first | refine c_reg fun K hK => ?_ | refine c_drw (by decide +kernel) fun K hK => ?_ | refine c_cond ?_ | refine seg_cons fun K hK => ?_ | show endW _ _ _ _ _ | refine ifb_dec (fun _ => ?_) (fun _ => ?_) | refine ifb_ieq (fun _ => ?_) (fun _ => ?_) | refine ifb_seq (fun _ => ?_) (fun _ => ?_)) <;> try simp (disch := first | (with_unfolding_all first | exact Lk.mk rfl | exact Seen.of rfl) | assumption | (fail_if_success with_reducible first | refine Seen.of ?_ | apply Sl.frame | apply Ow.frame); omega) only [go_sem, Int.reduceEq, Int.reduceLE, Int.reduceLT, Int.reduceNe, Int.reduceNeg, Int.reduceAdd, Int.reduceSub, Int.reduceMul, Int.reduceToNat, Nat.reduceLT, Nat.reduceLeDiff, Nat.reduceEqDiff, Nat.reduceAdd, Nat.reduceSub, Nat.reduceMul, reduceCtorEq, reduceIte, e0, e1, e2, hc, he]))
    exact hKK _ _ (.inl ⟨he, rfl, rfl⟩)
  | false =>
    have o1 := ho.ow
    repeat' (first
      | (with_reducible first | refine q_nn ?_ | refine q_nr ?_ | refine q_ne ?_ | refine q_en ?_ | refine q_er ?_ | refine q_es ?_ | refine q_gn ?_ | refine q_gr ?_ | refine q_ge ?_ | refine c_seq ?_ | refine c_block ?_ | refine c_scope ?_ | refine c_skip ?_ | refine c_label ?_ | refine c_ret ?_ | refine c_exit ?_ | (refine hK _ _ ?_; clear hK K) | refine seg_nil ?_) | ((with_reducible refine q_eo ?_ ?_); exact rfl)
      | ((with_reducible first | refine c_reg fun K hK => ?_ | refine c_drw (by decide +kernel) fun K hK => ?_ | refine c_cond ?_ | refine seg_cons fun K hK => ?_ | show endW _ _ _ _ _ | refine ifb_dec (fun _ => ?_) (fun _ => ?_) | refine ifb_ieq (fun _ => ?_) (fun _ => ?_) | refine ifb_seq (fun _ => ?_) (fun _ => ?_)) <;> try simp (disch := first | (with_unfolding_all first | exact Lk.mk rfl | exact Seen.of rfl) | assumption | (fail_if_success with_reducible first | refine Seen.of ?_ | apply Sl.frame | apply Ow.frame); omega) only [go_sem, Int.reduceEq, Int.reduceLE, Int.reduceLT, Int.reduceNe, Int.reduceNeg, Int.reduceAdd, Int.reduceSub, Int.reduceMul, Int.reduceToNat, Nat.reduceLT, Nat.reduceLeDiff, Nat.reduceEqDiff, Nat.reduceAdd, Nat.reduceSub, Nat.reduceMul, reduceCtorEq, reduceIte, e0, e1, e2, hc, he]))
    refine Try.ap33 o1 hd (by exact .mk) (by omega) fun z h1 i1 o hi hz hf => ?_
    obtain ⟨g', on, hg'⟩ := OwN.of (b := h0.size) (g := g2) o hi rfl
    have hcb : h1.get b = h0.get b := hf b hb (by
      cases g2 with
      | none => simp; omega
      | some i => simp only [Option.getD_some]; intro e; exact hg (by rw [e]))
    rw [hc] at hcb
    have hz1 := on.one
    have hz2 := on.cells
    have hb1 : b < h1.size := by omega
    refine vI ?_; repeat' (first
      | (with_reducible first | refine q_nn ?_ | refine q_nr ?_ | refine q_ne ?_ | refine q_en ?_ | refine q_er ?_ | refine q_es ?_ | refine q_gn ?_ | refine q_gr ?_ | refine q_ge ?_ | refine c_seq ?_ | refine c_block ?_ | refine c_scope ?_ | refine c_skip ?_ | refine c_label ?_ | refine c_ret ?_ | refine c_exit ?_ | (refine hK _ _ ?_; clear hK K) | refine seg_nil ?_) | ((with_reducible refine q_eo ?_ ?_); exact rfl)
      | ((with_reducible first | refine vO ?_ | refine c_reg fun K hK => ?_ | refine c_drw (by decide +kernel) fun K hK => ?_ | refine c_cond ?_ | refine seg_cons fun K hK => ?_ | show endW _ _ _ _ _ | refine ifb_dec (fun _ => ?_) (fun _ => ?_) | refine ifb_ieq (fun _ => ?_) (fun _ => ?_) | refine ifb_seq (fun _ => ?_) (fun _ => ?_)) <;> try simp (disch := first | (with_unfolding_all first | exact Lk.mk rfl | exact Seen.of rfl) | assumption | (fail_if_success with_reducible first | refine Seen.of ?_ | apply Sl.frame | apply Ow.frame); omega) only [go_sem, Int.reduceEq, Int.reduceLE, Int.reduceLT, Int.reduceNe, Int.reduceNeg, Int.reduceAdd, Int.reduceSub, Int.reduceMul, Int.reduceToNat, Nat.reduceLT, Nat.reduceLeDiff, Nat.reduceEqDiff, Nat.reduceAdd, Nat.reduceSub, Nat.reduceMul, reduceCtorEq, reduceIte, e0, e1, e2, hcb, hz1, hz2, stC_1 (Seen.of hz1)]))
    refine hKK _ _ (.inr ⟨he, rfl, ⟨by simp; omega, fun x hx hxb hxg => ?_⟩, z, g', ?_, ?_, hg'⟩)
    · rw [AH.get_set, if_neg hxb, AH.get_set, if_neg hxb]
      refine hf x hx ?_
      cases hgg : g2 with
      | none => simp; omega
      | some i => simp only [Option.getD_some]; intro e; exact hxg (by rw [hgg, e])
    · rw [AH.get_set, if_pos rfl]; rfl
    · refine on.frame (fun i hi => ?_) (by simp)
      have : ¬ i = b := by
        intro e
        rcases hg' with h | h | ⟨q, h, hq⟩
        · rw [h] at hi; cases hi
        · exact hg (by rw [← h, hi, e])
        · rw [h] at hi; cases hi; omega
      rw [AH.get_set, if_neg this, AH.get_set, if_neg this]
set_option maxHeartbeats 4000000 in
theorem givenans (b j : Nat) (g4 : Option Nat) (r : Rq) (v1 v2 v3 v4 dv : AV) (d : List UInt8) (e : Bool) (h0 : AH) (hc : h0.get b = some (.cells (cC r v1 v2 v3 v4))) (hb : b < h0.size) (ho : OwN E8 h0 g4 v4 r.ans.bytes) (hg : ¬ g4 = some b) (hd : Sl E8 h0 j dv d) (hl : r.ans.bytes.length + d.length < 100000000000000) :
    callW Try.prog Try.T 31 [.ptr (some (b, 13)), dv, .bool e] h0 fun v h' => r.ans.ended = true ∧ v = .bool false ∧ h' = h0 ∨ r.ans.ended = false ∧ v = .bool true ∧ But b g4 h0 h' ∧ ∃ z g', h'.get b = some (.cells (cC { r with ans := giveW r.ans d e } v1 v2 v3 z)) ∧ OwN E8 h' g' z (r.ans.bytes ++ d) ∧ (g' = none ∨ g' = g4 ∨ ∃ i, g' = some i ∧ h0.size ≤ i) := by
  unfold cC at hc
  refine callW_hide fun KK hKK => ?_
  refine callW_in (n := 24) (rs := [.tmp 6]) (m := 24) Try.func31 rfl rfl rfl rfl fun tr ht => ?_; have e0 := ht 0 _ rfl; have e1 := ht 1 _ rfl; have e2 := ht 2 _ rfl; clear ht
  cases he : r.ans.ended with
  | true =>
    repeat' (first
      | (with_reducible first | refine q_nn ?_ | refine q_nr ?_ | refine q_ne ?_ | refine q_en ?_ | refine q_er ?_ | refine q_es ?_ | refine q_gn ?_ | refine q_gr ?_ | refine q_ge ?_ | refine c_seq ?_ | refine c_block ?_ | refine c_scope ?_ | refine c_skip ?_ | refine c_label ?_ | refine c_ret ?_ | refine c_exit ?_ | (refine hK _ _ ?_; clear hK K) | refine seg_nil ?_) | ((with_reducible refine q_eo ?_ ?_); exact rfl)
      | ((with_reducible first | refine c_reg fun K hK => ?_ | refine c_drw (by decide +kernel) fun K hK => ?_ | refine c_cond ?_ | refine seg_cons fun K hK => ?_ | show endW _ _ _ _ _ | refine ifb_dec (fun _ => ?_) (fun _ => ?_) | refine ifb_ieq (fun _ => ?_) (fun _ => ?_) | refine ifb_seq (fun _ => ?_) (fun _ => ?_)) <;> try simp (disch := first | (with_unfolding_all first | exact Lk.mk rfl | exact Seen.of rfl) | assumption | (fail_if_success with_reducible first | refine Seen.of ?_ | apply Sl.frame | apply Ow.frame); omega) only [go_sem, Int.reduceEq, Int.reduceLE, Int.reduceLT, Int.reduceNe, Int.reduceNeg, Int.reduceAdd, Int.reduceSub, Int.reduceMul, Int.reduceToNat, Nat.reduceLT, Nat.reduceLeDiff, Nat.reduceEqDiff, Nat.reduceAdd, Nat.reduceSub, Nat.reduceMul, reduceCtorEq, reduceIte, e0, e1, e2, hc, he]))
    exact hKK _ _ (.inl ⟨he, rfl, rfl⟩)
  | false =>
    have o1 := ho.ow
    repeat' (first
      | (with_reducible first | refine q_nn ?_ | refine q_nr ?_ | refine q_ne ?_ | refine q_en ?_ | refine q_er ?_ | refine q_es ?_ | refine q_gn ?_ | refine q_gr ?_ | refine q_ge ?_ | refine c_seq ?_ | refine c_block ?_ | refine c_scope ?_ | refine c_skip ?_ | refine c_label ?_ | refine c_ret ?_ | refine c_exit ?_ | (refine hK _ _ ?_; clear hK K) | refine seg_nil ?_) | ((with_reducible refine q_eo ?_ ?_); exact rfl)
      | ((with_reducible first | refine c_reg fun K hK => ?_ | refine c_drw (by decide +kernel) fun K hK => ?_ | refine c_cond ?_ | refine seg_cons fun K hK => ?_ | show endW _ _ _ _ _ | refine ifb_dec (fun _ => ?_) (fun _ => ?_) | refine ifb_ieq (fun _ => ?_) (fun _ => ?_) | refine ifb_seq (fun _ => ?_) (fun _ => ?_)) <;> try simp (disch := first | (with_unfolding_all first | exact Lk.mk rfl | exact Seen.of rfl) | assumption | (fail_if_success with_reducible first | refine Seen.of ?_ | apply Sl.frame | apply Ow.frame); omega) only [go_sem, Int.reduceEq, Int.reduceLE, Int.reduceLT, Int.reduceNe, Int.reduceNeg, Int.reduceAdd, Int.reduceSub, Int.reduceMul, Int.reduceToNat, Nat.reduceLT, Nat.reduceLeDiff, Nat.reduceEqDiff, Nat.reduceAdd, Nat.reduceSub, Nat.reduceMul, reduceCtorEq, reduceIte, e0, e1, e2, hc, he]))
    refine Try.ap33 o1 hd (by exact .mk) (by omega) fun z h1 i1 o hi hz hf => ?_
    obtain ⟨g', on, hg'⟩ := OwN.of (b := h0.size) (g := g4) o hi rfl
    have hcb : h1.get b = h0.get b := hf b hb (by
      cases g4 with
      | none => simp; omega
      | some i => simp only [Option.getD_some]; intro e; exact hg (by rw [e]))
    rw [hc] at hcb
    have hz1 := on.one
    have hz2 := on.cells
    have hb1 : b < h1.size := by omega
    refine vI ?_; repeat' (first
      | (with_reducible first | refine q_nn ?_ | refine q_nr ?_ | refine q_ne ?_ | refine q_en ?_ | refine q_er ?_ | refine q_es ?_ | refine q_gn ?_ | refine q_gr ?_ | refine q_ge ?_ | refine c_seq ?_ | refine c_block ?_ | refine c_scope ?_ | refine c_skip ?_ | refine c_label ?_ | refine c_ret ?_ | refine c_exit ?_ | (refine hK _ _ ?_; clear hK K) | refine seg_nil ?_) | ((with_reducible refine q_eo ?_ ?_); exact rfl)
      | ((with_reducible first | refine vO ?_ | refine c_reg fun K hK => ?_ | refine c_drw (by decide +kernel) fun K hK => ?_ | refine c_cond ?_ | refine seg_cons fun K hK => ?_ | show endW _ _ _ _ _ | refine ifb_dec (fun _ => ?_) (fun _ => ?_) | refine ifb_ieq (fun _ => ?_) (fun _ => ?_) | refine ifb_seq (fun _ => ?_) (fun _ => ?_)) <;> try simp (disch := first | (with_unfolding_all first | exact Lk.mk rfl | exact Seen.of rfl) | assumption | (fail_if_success with_reducible first | refine Seen.of ?_ | apply Sl.frame | apply Ow.frame); omega) only [go_sem, Int.reduceEq, Int.reduceLE, Int.reduceLT, Int.reduceNe, Int.reduceNeg, Int.reduceAdd, Int.reduceSub, Int.reduceMul, Int.reduceToNat, Nat.reduceLT, Nat.reduceLeDiff, Nat.reduceEqDiff, Nat.reduceAdd, Nat.reduceSub, Nat.reduceMul, reduceCtorEq, reduceIte, e0, e1, e2, hcb, hz1, hz2, stC_1 (Seen.of hz1)]))
    refine hKK _ _ (.inr ⟨he, rfl, ⟨by simp; omega, fun x hx hxb hxg => ?_⟩, z, g', ?_, ?_, hg'⟩)
    · rw [AH.get_set, if_neg hxb, AH.get_set, if_neg hxb]
      refine hf x hx ?_
      cases hgg : g4 with
      | none => simp; omega
      | some i => simp only [Option.getD_some]; intro e; exact hxg (by rw [hgg, e])
    · rw [AH.get_set, if_pos rfl]; rfl
    · refine on.frame (fun i hi => ?_) (by simp)
      have : ¬ i = b := by
        intro e
        rcases hg' with h | h | ⟨q, h, hq⟩
        · rw [h] at hi; cases hi
        · exact hg (by rw [← h, hi, e])
        · rw [h] at hi; cases hi; omega
      rw [AH.get_set, if_neg this, AH.get_set, if_neg this]
set_option maxHeartbeats 4000000 in
theorem tellsask (b j : Nat) (g2 : Option Nat) (r : Rq) (v1 v2 v3 v4 dv : AV) (d : List UInt8) (e : Bool) (h0 : AH) (hc : h0.get b = some (.cells (cC r v1 v2 v3 v4))) (hb : b < h0.size) (ho : OwN E8 h0 g2 v2 r.ask.bytes) (hd : Sl E8 h0 j dv d) (hp : r.ask.pos ≤ r.ask.bytes.length) (hl : r.ask.bytes.length < 100000000000000) :
    callW Try.prog Try.T 33 [.ptr (some (b, 5)), dv, .bool e] h0 fun v h' => ¬ dataOk r.ask d e ∧ v = .bool false ∧ h' = h0 ∨ dataOk r.ask d e ∧ v = .bool true ∧ But b none h0 h' ∧ h'.get b = some (.cells (cC { r with ask := dataW r.ask d e } v1 v2 v3 v4)) := by
  unfold cC at hc
  have s0 := ho.sl
  have hpa := s0.part (lo := (r.ask.pos : Int)) (hi := (r.ask.bytes.length : Int)) (by omega) (by omega) (Int.le_refl _)
  have hdr : (r.ask.bytes.drop (r.ask.pos : Int).toNat).take ((r.ask.bytes.length : Int).toNat - (r.ask.pos : Int).toNat) = r.ask.bytes.drop r.ask.pos := by
    rw [Int.toNat_natCast, Int.toNat_natCast]; exact List.take_of_length_le (by rw [List.length_drop]; omega)
  rw [hdr] at hpa
  have hdl : (r.ask.bytes.drop r.ask.pos).length = r.ask.bytes.length - r.ask.pos := List.length_drop
  have hln : ∀ hh : AH, builtinA Try.T hh .len [33] [AV.part (r.ask.pos : Int) (r.ask.bytes.length : Int) v2] = some (.int .i64 ((r.ask.bytes.length : Int) - r.ask.pos), hh) := fun hh => by
    have := hpa.len (T := Try.T) (h' := hh) (t := 33) (e := 5) rfl
    rw [hdl] at this
    rw [this]; congr 3; omega
  refine callW_hide fun KK hKK => ?_
  refine callW_in (n := 57) (rs := [.tmp 6]) (m := 57) Try.func33 rfl rfl rfl rfl fun tr ht => ?_; have e0 := ht 0 _ rfl; have e1 := ht 1 _ rfl; have e2 := ht 2 _ rfl; clear ht
  cases ho1 : r.ask.over with
  | true =>
    have hno : ¬ dataOk r.ask d e := fun h => by rw [h.1] at ho1; cases ho1
    repeat' (first
      | (with_reducible first | refine q_nn ?_ | refine q_nr ?_ | refine q_ne ?_ | refine q_en ?_ | refine q_er ?_ | refine q_es ?_ | refine q_gn ?_ | refine q_gr ?_ | refine q_ge ?_ | refine c_seq ?_ | refine c_block ?_ | refine c_scope ?_ | refine c_skip ?_ | refine c_label ?_ | refine c_ret ?_ | refine c_exit ?_ | (refine hK _ _ ?_; clear hK K) | refine seg_nil ?_) | ((with_reducible refine q_eo ?_ ?_); exact rfl)
      | ((with_reducible first | refine c_reg fun K hK => ?_ | refine c_drw (by decide +kernel) fun K hK => ?_ | refine c_cond ?_ | refine seg_cons fun K hK => ?_ | show endW _ _ _ _ _ | refine ifb_dec (fun _ => ?_) (fun _ => ?_) | refine ifb_ieq (fun _ => ?_) (fun _ => ?_) | refine ifb_seq (fun _ => ?_) (fun _ => ?_)) <;> try simp (disch := first | (with_unfolding_all first | exact Lk.mk rfl | exact Seen.of rfl) | assumption | (fail_if_success with_reducible first | refine Seen.of ?_ | apply Sl.frame | apply Ow.frame); omega) only [go_sem, Int.reduceEq, Int.reduceLE, Int.reduceLT, Int.reduceNe, Int.reduceNeg, Int.reduceAdd, Int.reduceSub, Int.reduceMul, Int.reduceToNat, Nat.reduceLT, Nat.reduceLeDiff, Nat.reduceEqDiff, Nat.reduceAdd, Nat.reduceSub, Nat.reduceMul, reduceCtorEq, reduceIte, e0, e1, e2, hc, ho1]))
    exact hKK _ _ (.inl ⟨hno, rfl, rfl⟩)
  | false =>
    repeat' (first
      | (with_reducible first | refine q_nn ?_ | refine q_nr ?_ | refine q_ne ?_ | refine q_en ?_ | refine q_er ?_ | refine q_es ?_ | refine q_gn ?_ | refine q_gr ?_ | refine q_ge ?_ | refine c_seq ?_ | refine c_block ?_ | refine c_scope ?_ | refine c_skip ?_ | refine c_label ?_ | refine c_ret ?_ | refine c_exit ?_ | (refine hK _ _ ?_; clear hK K) | refine seg_nil ?_) | ((with_reducible refine q_eo ?_ ?_); exact rfl)
      | ((with_reducible first | refine c_reg fun K hK => ?_ | refine c_drw (by decide +kernel) fun K hK => ?_ | refine c_cond ?_ | refine seg_cons fun K hK => ?_ | show endW _ _ _ _ _ | refine ifb_dec (fun _ => ?_) (fun _ => ?_) | refine ifb_ieq (fun _ => ?_) (fun _ => ?_) | refine ifb_seq (fun _ => ?_) (fun _ => ?_)) <;> try simp (disch := first | (with_unfolding_all first | exact Lk.mk rfl | exact Seen.of rfl) | assumption | (fail_if_success with_reducible first | refine Seen.of ?_ | apply Sl.frame | apply Ow.frame); omega) only [go_sem, Int.reduceEq, Int.reduceLE, Int.reduceLT, Int.reduceNe, Int.reduceNeg, Int.reduceAdd, Int.reduceSub, Int.reduceMul, Int.reduceToNat, Nat.reduceLT, Nat.reduceLeDiff, Nat.reduceEqDiff, Nat.reduceAdd, Nat.reduceSub, Nat.reduceMul, reduceCtorEq, reduceIte, e0, e1, e2, hc, ho1]))
    refine callM_of (hasPrefix _ _ _ j _ _ h0 hpa hd) ?_
    rintro v h1 ⟨rfl, rfl⟩
    by_cases hpf : d <+: r.ask.bytes.drop r.ask.pos
    · have hpl := prefix_drop hpf hp
      cases e with
      | false =>
        have hyes : dataOk r.ask d false := ⟨ho1, hpf, fun h => by cases h⟩
        refine vI ?_; repeat' (first
      | (with_reducible first | refine q_nn ?_ | refine q_nr ?_ | refine q_ne ?_ | refine q_en ?_ | refine q_er ?_ | refine q_es ?_ | refine q_gn ?_ | refine q_gr ?_ | refine q_ge ?_ | refine c_seq ?_ | refine c_block ?_ | refine c_scope ?_ | refine c_skip ?_ | refine c_label ?_ | refine c_ret ?_ | refine c_exit ?_ | (refine hK _ _ ?_; clear hK K) | refine seg_nil ?_) | ((with_reducible refine q_eo ?_ ?_); exact rfl)
      | ((with_reducible first | refine vO ?_ | refine c_reg fun K hK => ?_ | refine c_drw (by decide +kernel) fun K hK => ?_ | refine c_cond ?_ | refine seg_cons fun K hK => ?_ | show endW _ _ _ _ _ | refine ifb_dec (fun _ => ?_) (fun _ => ?_) | refine ifb_ieq (fun _ => ?_) (fun _ => ?_) | refine ifb_seq (fun _ => ?_) (fun _ => ?_)) <;> try simp (disch := first | (with_unfolding_all first | exact Lk.mk rfl | exact Seen.of rfl) | assumption | (fail_if_success with_reducible first | refine Seen.of ?_ | apply Sl.frame | apply Ow.frame); omega) only [go_sem, Int.reduceEq, Int.reduceLE, Int.reduceLT, Int.reduceNe, Int.reduceNeg, Int.reduceAdd, Int.reduceSub, Int.reduceMul, Int.reduceToNat, Nat.reduceLT, Nat.reduceLeDiff, Nat.reduceEqDiff, Nat.reduceAdd, Nat.reduceSub, Nat.reduceMul, reduceCtorEq, reduceIte, e0, e1, e2, hc, ho1, hpf]))
        exact hKK _ _ (.inr ⟨hyes, rfl, ⟨by simp, fun x hx hxb _ => by rw [AH.get_set, if_neg hxb, AH.get_set, if_neg hxb]⟩, by rw [AH.get_set, if_pos rfl]; rfl⟩)
      | true =>
        cases hen : r.ask.ended with
        | false =>
          have hno : ¬ dataOk r.ask d true := fun h => by rw [(h.2.2 rfl).1] at hen; cases hen
          refine vI ?_; repeat' (first
      | (with_reducible first | refine q_nn ?_ | refine q_nr ?_ | refine q_ne ?_ | refine q_en ?_ | refine q_er ?_ | refine q_es ?_ | refine q_gn ?_ | refine q_gr ?_ | refine q_ge ?_ | refine c_seq ?_ | refine c_block ?_ | refine c_scope ?_ | refine c_skip ?_ | refine c_label ?_ | refine c_ret ?_ | refine c_exit ?_ | (refine hK _ _ ?_; clear hK K) | refine seg_nil ?_) | ((with_reducible refine q_eo ?_ ?_); exact rfl)
      | ((with_reducible first | refine vO ?_ | refine c_reg fun K hK => ?_ | refine c_drw (by decide +kernel) fun K hK => ?_ | refine c_cond ?_ | refine seg_cons fun K hK => ?_ | show endW _ _ _ _ _ | refine ifb_dec (fun _ => ?_) (fun _ => ?_) | refine ifb_ieq (fun _ => ?_) (fun _ => ?_) | refine ifb_seq (fun _ => ?_) (fun _ => ?_)) <;> try simp (disch := first | (with_unfolding_all first | exact Lk.mk rfl | exact Seen.of rfl) | assumption | (fail_if_success with_reducible first | refine Seen.of ?_ | apply Sl.frame | apply Ow.frame); omega) only [go_sem, Int.reduceEq, Int.reduceLE, Int.reduceLT, Int.reduceNe, Int.reduceNeg, Int.reduceAdd, Int.reduceSub, Int.reduceMul, Int.reduceToNat, Nat.reduceLT, Nat.reduceLeDiff, Nat.reduceEqDiff, Nat.reduceAdd, Nat.reduceSub, Nat.reduceMul, reduceCtorEq, reduceIte, e0, e1, e2, hc, ho1, hpf, hen]))
          exact hKK _ _ (.inl ⟨hno, rfl, rfl⟩)
        | true =>
          by_cases hq : r.ask.pos + d.length = r.ask.bytes.length
          · have hyes : dataOk r.ask d true := ⟨ho1, hpf, fun _ => ⟨hen, hq⟩⟩
            refine vI ?_; repeat' (first
      | (with_reducible first | refine q_nn ?_ | refine q_nr ?_ | refine q_ne ?_ | refine q_en ?_ | refine q_er ?_ | refine q_es ?_ | refine q_gn ?_ | refine q_gr ?_ | refine q_ge ?_ | refine c_seq ?_ | refine c_block ?_ | refine c_scope ?_ | refine c_skip ?_ | refine c_label ?_ | refine c_ret ?_ | refine c_exit ?_ | (refine hK _ _ ?_; clear hK K) | refine seg_nil ?_) | ((with_reducible refine q_eo ?_ ?_); exact rfl)
      | ((with_reducible first | refine vO ?_ | refine c_reg fun K hK => ?_ | refine c_drw (by decide +kernel) fun K hK => ?_ | refine c_cond ?_ | refine seg_cons fun K hK => ?_ | show endW _ _ _ _ _ | refine ifb_dec (fun _ => ?_) (fun _ => ?_) | refine ifb_ieq (fun _ => ?_) (fun _ => ?_) | refine ifb_seq (fun _ => ?_) (fun _ => ?_)) <;> try simp (disch := first | (with_unfolding_all first | exact Lk.mk rfl | exact Seen.of rfl) | assumption | (fail_if_success with_reducible first | refine Seen.of ?_ | apply Sl.frame | apply Ow.frame); omega) only [go_sem, Int.reduceEq, Int.reduceLE, Int.reduceLT, Int.reduceNe, Int.reduceNeg, Int.reduceAdd, Int.reduceSub, Int.reduceMul, Int.reduceToNat, Nat.reduceLT, Nat.reduceLeDiff, Nat.reduceEqDiff, Nat.reduceAdd, Nat.reduceSub, Nat.reduceMul, reduceCtorEq, reduceIte, e0, e1, e2, hc, ho1, hpf, hen]))
            exact hKK _ _ (.inr ⟨hyes, rfl, ⟨by simp, fun x hx hxb _ => by rw [AH.get_set, if_neg hxb, AH.get_set, if_neg hxb]⟩, by rw [AH.get_set, if_pos rfl]; unfold cC dataW; rw [hen]; rfl⟩)
          · have hno : ¬ dataOk r.ask d true := fun h => hq (h.2.2 rfl).2
            refine vI ?_; repeat' (first
      | (with_reducible first | refine q_nn ?_ | refine q_nr ?_ | refine q_ne ?_ | refine q_en ?_ | refine q_er ?_ | refine q_es ?_ | refine q_gn ?_ | refine q_gr ?_ | refine q_ge ?_ | refine c_seq ?_ | refine c_block ?_ | refine c_scope ?_ | refine c_skip ?_ | refine c_label ?_ | refine c_ret ?_ | refine c_exit ?_ | (refine hK _ _ ?_; clear hK K) | refine seg_nil ?_) | ((with_reducible refine q_eo ?_ ?_); exact rfl)
      | ((with_reducible first | refine vO ?_ | refine c_reg fun K hK => ?_ | refine c_drw (by decide +kernel) fun K hK => ?_ | refine c_cond ?_ | refine seg_cons fun K hK => ?_ | show endW _ _ _ _ _ | refine ifb_dec (fun _ => ?_) (fun _ => ?_) | refine ifb_ieq (fun _ => ?_) (fun _ => ?_) | refine ifb_seq (fun _ => ?_) (fun _ => ?_)) <;> try simp (disch := first | (with_unfolding_all first | exact Lk.mk rfl | exact Seen.of rfl) | assumption | (fail_if_success with_reducible first | refine Seen.of ?_ | apply Sl.frame | apply Ow.frame); omega) only [go_sem, Int.reduceEq, Int.reduceLE, Int.reduceLT, Int.reduceNe, Int.reduceNeg, Int.reduceAdd, Int.reduceSub, Int.reduceMul, Int.reduceToNat, Nat.reduceLT, Nat.reduceLeDiff, Nat.reduceEqDiff, Nat.reduceAdd, Nat.reduceSub, Nat.reduceMul, reduceCtorEq, reduceIte, e0, e1, e2, hc, ho1, hpf, hen]))
            exact hKK _ _ (.inl ⟨hno, rfl, rfl⟩)
    · have hno : ¬ dataOk r.ask d e := fun h => hpf h.2.1
      refine vI ?_; repeat' (first
      | (with_reducible first | refine q_nn ?_ | refine q_nr ?_ | refine q_ne ?_ | refine q_en ?_ | refine q_er ?_ | refine q_es ?_ | refine q_gn ?_ | refine q_gr ?_ | refine q_ge ?_ | refine c_seq ?_ | refine c_block ?_ | refine c_scope ?_ | refine c_skip ?_ | refine c_label ?_ | refine c_ret ?_ | refine c_exit ?_ | (refine hK _ _ ?_; clear hK K) | refine seg_nil ?_) | ((with_reducible refine q_eo ?_ ?_); exact rfl)
      | ((with_reducible first | refine vO ?_ | refine c_reg fun K hK => ?_ | refine c_drw (by decide +kernel) fun K hK => ?_ | refine c_cond ?_ | refine seg_cons fun K hK => ?_ | show endW _ _ _ _ _ | refine ifb_dec (fun _ => ?_) (fun _ => ?_) | refine ifb_ieq (fun _ => ?_) (fun _ => ?_) | refine ifb_seq (fun _ => ?_) (fun _ => ?_)) <;> try simp (disch := first | (with_unfolding_all first | exact Lk.mk rfl | exact Seen.of rfl) | assumption | (fail_if_success with_reducible first | refine Seen.of ?_ | apply Sl.frame | apply Ow.frame); omega) only [go_sem, Int.reduceEq, Int.reduceLE, Int.reduceLT, Int.reduceNe, Int.reduceNeg, Int.reduceAdd, Int.reduceSub, Int.reduceMul, Int.reduceToNat, Nat.reduceLT, Nat.reduceLeDiff, Nat.reduceEqDiff, Nat.reduceAdd, Nat.reduceSub, Nat.reduceMul, reduceCtorEq, reduceIte, e0, e1, e2, hc, ho1, hpf]))
      exact hKK _ _ (.inl ⟨hno, rfl, rfl⟩)
set_option maxHeartbeats 4000000 in
theorem tellsans (b j : Nat) (g4 : Option Nat) (r : Rq) (v1 v2 v3 v4 dv : AV) (d : List UInt8) (e : Bool) (h0 : AH) (hc : h0.get b = some (.cells (cC r v1 v2 v3 v4))) (hb : b < h0.size) (ho : OwN E8 h0 g4 v4 r.ans.bytes) (hd : Sl E8 h0 j dv d) (hp : r.ans.pos ≤ r.ans.bytes.length) (hl : r.ans.bytes.length < 100000000000000) :
    callW Try.prog Try.T 33 [.ptr (some (b, 13)), dv, .bool e] h0 fun v h' => ¬ dataOk r.ans d e ∧ v = .bool false ∧ h' = h0 ∨ dataOk r.ans d e ∧ v = .bool true ∧ But b none h0 h' ∧ h'.get b = some (.cells (cC { r with ans := dataW r.ans d e } v1 v2 v3 v4)) := by
  unfold cC at hc
  have s0 := ho.sl
  have hpa := s0.part (lo := (r.ans.pos : Int)) (hi := (r.ans.bytes.length : Int)) (by omega) (by omega) (Int.le_refl _)
  have hdr : (r.ans.bytes.drop (r.ans.pos : Int).toNat).take ((r.ans.bytes.length : Int).toNat - (r.ans.pos : Int).toNat) = r.ans.bytes.drop r.ans.pos := by
    rw [Int.toNat_natCast, Int.toNat_natCast]; exact List.take_of_length_le (by rw [List.length_drop]; omega)
  rw [hdr] at hpa
  have hdl : (r.ans.bytes.drop r.ans.pos).length = r.ans.bytes.length - r.ans.pos := List.length_drop
  have hln : ∀ hh : AH, builtinA Try.T hh .len [33] [AV.part (r.ans.pos : Int) (r.ans.bytes.length : Int) v4] = some (.int .i64 ((r.ans.bytes.length : Int) - r.ans.pos), hh) := fun hh => by
    have := hpa.len (T := Try.T) (h' := hh) (t := 33) (e := 5) rfl
    rw [hdl] at this
    rw [this]; congr 3; omega
  refine callW_hide fun KK hKK => ?_
  refine callW_in (n := 57) (rs := [.tmp 6]) (m := 57) Try.func33 rfl rfl rfl rfl fun tr ht => ?_; have e0 := ht 0 _ rfl; have e1 := ht 1 _ rfl; have e2 := ht 2 _ rfl; clear ht
  cases ho1 : r.ans.over with
  | true =>
    have hno : ¬ dataOk r.ans d e := fun h => by rw [h.1] at ho1; cases ho1
    repeat' (first
      | (with_reducible first | refine q_nn ?_ | refine q_nr ?_ | refine q_ne ?_ | refine q_en ?_ | refine q_er ?_ | refine q_es ?_ | refine q_gn ?_ | refine q_gr ?_ | refine q_ge ?_ | refine c_seq ?_ | refine c_block ?_ | refine c_scope ?_ | refine c_skip ?_ | refine c_label ?_ | refine c_ret ?_ | refine c_exit ?_ | (refine hK _ _ ?_; clear hK K) | refine seg_nil ?_) | ((with_reducible refine q_eo ?_ ?_); exact rfl)
      | ((with_reducible first | refine c_reg fun K hK => ?_ | refine c_drw (by decide +kernel) fun K hK => ?_ | refine c_cond ?_ | refine seg_cons fun K hK => ?_ | show endW _ _ _ _ _ | refine ifb_dec (fun _ => ?_) (fun _ => ?_) | refine ifb_ieq (fun _ => ?_) (fun _ => ?_) | refine ifb_seq (fun _ => ?_) (fun _ => ?_)) <;> try simp (disch := first | (with_unfolding_all first | exact Lk.mk rfl | exact Seen.of rfl) | assumption | (fail_if_success with_reducible first | refine Seen.of ?_ | apply Sl.frame | apply Ow.frame); omega) only [go_sem, Int.reduceEq, Int.reduceLE, Int.reduceLT, Int.reduceNe, Int.reduceNeg, Int.reduceAdd, Int.reduceSub, Int.reduceMul, Int.reduceToNat, Nat.reduceLT, Nat.reduceLeDiff, Nat.reduceEqDiff, Nat.reduceAdd, Nat.reduceSub, Nat.reduceMul, reduceCtorEq, reduceIte, e0, e1, e2, hc, ho1]))
    exact hKK _ _ (.inl ⟨hno, rfl, rfl⟩)
  | false =>
    repeat' (first
      | (with_reducible first | refine q_nn ?_ | refine q_nr ?_ | refine q_ne ?_ | refine q_en ?_ | refine q_er ?_ | refine q_es ?_ | refine q_gn ?_ | refine q_gr ?_ | refine q_ge ?_ | refine c_seq ?_ | refine c_block ?_ | refine c_scope ?_ | refine c_skip ?_ | refine c_label ?_ | refine c_ret ?_ | refine c_exit ?_ | (refine hK _ _ ?_; clear hK K) | refine seg_nil ?_) | ((with_reducible refine q_eo ?_ ?_); exact rfl)
      | ((with_reducible first | refine c_reg fun K hK => ?_ | refine c_drw (by decide +kernel) fun K hK => ?_ | refine c_cond ?_ | refine seg_cons fun K hK => ?_ | show endW _ _ _ _ _ | refine ifb_dec (fun _ => ?_) (fun _ => ?_) | refine ifb_ieq (fun _ => ?_) (fun _ => ?_) | refine ifb_seq (fun _ => ?_) (fun _ => ?_)) <;> try simp (disch := first | (with_unfolding_all first | exact Lk.mk rfl | exact Seen.of rfl) | assumption | (fail_if_success with_reducible first | refine Seen.of ?_ | apply Sl.frame | apply Ow.frame); omega) only [go_sem, Int.reduceEq, Int.reduceLE, Int.reduceLT, Int.reduceNe, Int.reduceNeg, Int.reduceAdd, Int.reduceSub, Int.reduceMul, Int.reduceToNat, Nat.reduceLT, Nat.reduceLeDiff, Nat.reduceEqDiff, Nat.reduceAdd, Nat.reduceSub, Nat.reduceMul, reduceCtorEq, reduceIte, e0, e1, e2, hc, ho1]))
    refine callM_of (hasPrefix _ _ _ j _ _ h0 hpa hd) ?_
    rintro v h1 ⟨rfl, rfl⟩
    by_cases hpf : d <+: r.ans.bytes.drop r.ans.pos
    · have hpl := prefix_drop hpf hp
      cases e with
      | false =>
        have hyes : dataOk r.ans d false := ⟨ho1, hpf, fun h => by cases h⟩
        refine vI ?_; repeat' (first
      | (with_reducible first | refine q_nn ?_ | refine q_nr ?_ | refine q_ne ?_ | refine q_en ?_ | refine q_er ?_ | refine q_es ?_ | refine q_gn ?_ | refine q_gr ?_ | refine q_ge ?_ | refine c_seq ?_ | refine c_block ?_ | refine c_scope ?_ | refine c_skip ?_ | refine c_label ?_ | refine c_ret ?_ | refine c_exit ?_ | (refine hK _ _ ?_; clear hK K) | refine seg_nil ?_) | ((with_reducible refine q_eo ?_ ?_); exact rfl)
      | ((with_reducible first | refine vO ?_ | refine c_reg fun K hK => ?_ | refine c_drw (by decide +kernel) fun K hK => ?_ | refine c_cond ?_ | refine seg_cons fun K hK => ?_ | show endW _ _ _ _ _ | refine ifb_dec (fun _ => ?_) (fun _ => ?_) | refine ifb_ieq (fun _ => ?_) (fun _ => ?_) | refine ifb_seq (fun _ => ?_) (fun _ => ?_)) <;> try simp (disch := first | (with_unfolding_all first | exact Lk.mk rfl | exact Seen.of rfl) | assumption | (fail_if_success with_reducible first | refine Seen.of ?_ | apply Sl.frame | apply Ow.frame); omega) only [go_sem, Int.reduceEq, Int.reduceLE, Int.reduceLT, Int.reduceNe, Int.reduceNeg, Int.reduceAdd, Int.reduceSub, Int.reduceMul, Int.reduceToNat, Nat.reduceLT, Nat.reduceLeDiff, Nat.reduceEqDiff, Nat.reduceAdd, Nat.reduceSub, Nat.reduceMul, reduceCtorEq, reduceIte, e0, e1, e2, hc, ho1, hpf]))
        exact hKK _ _ (.inr ⟨hyes, rfl, ⟨by simp, fun x hx hxb _ => by rw [AH.get_set, if_neg hxb, AH.get_set, if_neg hxb]⟩, by rw [AH.get_set, if_pos rfl]; rfl⟩)
      | true =>
        cases hen : r.ans.ended with
        | false =>
          have hno : ¬ dataOk r.ans d true := fun h => by rw [(h.2.2 rfl).1] at hen; cases hen
          refine vI ?_; repeat' (first
      | (with_reducible first | refine q_nn ?_ | refine q_nr ?_ | refine q_ne ?_ | refine q_en ?_ | refine q_er ?_ | refine q_es ?_ | refine q_gn ?_ | refine q_gr ?_ | refine q_ge ?_ | refine c_seq ?_ | refine c_block ?_ | refine c_scope ?_ | refine c_skip ?_ | refine c_label ?_ | refine c_ret ?_ | refine c_exit ?_ | (refine hK _ _ ?_; clear hK K) | refine seg_nil ?_) | ((with_reducible refine q_eo ?_ ?_); exact rfl)
      | ((with_reducible first | refine vO ?_ | refine c_reg fun K hK => ?_ | refine c_drw (by decide +kernel) fun K hK => ?_ | refine c_cond ?_ | refine seg_cons fun K hK => ?_ | show endW _ _ _ _ _ | refine ifb_dec (fun _ => ?_) (fun _ => ?_) | refine ifb_ieq (fun _ => ?_) (fun _ => ?_) | refine ifb_seq (fun _ => ?_) (fun _ => ?_)) <;> try simp (disch := first | (with_unfolding_all first | exact Lk.mk rfl | exact Seen.of rfl) | assumption | (fail_if_success with_reducible first | refine Seen.of ?_ | apply Sl.frame | apply Ow.frame); omega) only [go_sem, Int.reduceEq, Int.reduceLE, Int.reduceLT, Int.reduceNe, Int.reduceNeg, Int.reduceAdd, Int.reduceSub, Int.reduceMul, Int.reduceToNat, Nat.reduceLT, Nat.reduceLeDiff, Nat.reduceEqDiff, Nat.reduceAdd, Nat.reduceSub, Nat.reduceMul, reduceCtorEq, reduceIte, e0, e1, e2, hc, ho1, hpf, hen]))
          exact hKK _ _ (.inl ⟨hno, rfl, rfl⟩)
        | true =>
          by_cases hq : r.ans.pos + d.length = r.ans.bytes.length
          · have hyes : dataOk r.ans d true := ⟨ho1, hpf, fun _ => ⟨hen, hq⟩⟩
            refine vI ?_; repeat' (first
      | (with_reducible first | refine q_nn ?_ | refine q_nr ?_ | refine q_ne ?_ | refine q_en ?_ | refine q_er ?_ | refine q_es ?_ | refine q_gn ?_ | refine q_gr ?_ | refine q_ge ?_ | refine c_seq ?_ | refine c_block ?_ | refine c_scope ?_ | refine c_skip ?_ | refine c_label ?_ | refine c_ret ?_ | refine c_exit ?_ | (refine hK _ _ ?_; clear hK K) | refine seg_nil ?_) | ((with_reducible refine q_eo ?_ ?_); exact rfl)
      | ((with_reducible first | refine vO ?_ | refine c_reg fun K hK => ?_ | refine c_drw (by decide +kernel) fun K hK => ?_ | refine c_cond ?_ | refine seg_cons fun K hK => ?_ | show endW _ _ _ _ _ | refine ifb_dec (fun _ => ?_) (fun _ => ?_) | refine ifb_ieq (fun _ => ?_) (fun _ => ?_) | refine ifb_seq (fun _ => ?_) (fun _ => ?_)) <;> try simp (disch := first | (with_unfolding_all first | exact Lk.mk rfl | exact Seen.of rfl) | assumption | (fail_if_success with_reducible first | refine Seen.of ?_ | apply Sl.frame | apply Ow.frame); omega) only [go_sem, Int.reduceEq, Int.reduceLE, Int.reduceLT, Int.reduceNe, Int.reduceNeg, Int.reduceAdd, Int.reduceSub, Int.reduceMul, Int.reduceToNat, Nat.reduceLT, Nat.reduceLeDiff, Nat.reduceEqDiff, Nat.reduceAdd, Nat.reduceSub, Nat.reduceMul, reduceCtorEq, reduceIte, e0, e1, e2, hc, ho1, hpf, hen]))
            exact hKK _ _ (.inr ⟨hyes, rfl, ⟨by simp, fun x hx hxb _ => by rw [AH.get_set, if_neg hxb, AH.get_set, if_neg hxb]⟩, by rw [AH.get_set, if_pos rfl]; unfold cC dataW; rw [hen]; rfl⟩)
          · have hno : ¬ dataOk r.ans d true := fun h => hq (h.2.2 rfl).2
            refine vI ?_; repeat' (first
      | (with_reducible first | refine q_nn ?_ | refine q_nr ?_ | refine q_ne ?_ | refine q_en ?_ | refine q_er ?_ | refine q_es ?_ | refine q_gn ?_ | refine q_gr ?_ | refine q_ge ?_ | refine c_seq ?_ | refine c_block ?_ | refine c_scope ?_ | refine c_skip ?_ | refine c_label ?_ | refine c_ret ?_ | refine c_exit ?_ | (refine hK _ _ ?_; clear hK K) | refine seg_nil ?_) | ((with_reducible refine q_eo ?_ ?_); exact rfl)
      | ((with_reducible first | refine vO ?_ | refine c_reg fun K hK => ?_ | refine c_drw (by decide +kernel) fun K hK => ?_ | refine c_cond ?_ | refine seg_cons fun K hK => ?_ | show endW _ _ _ _ _ | refine ifb_dec (fun _ => ?_) (fun _ => ?_) | refine ifb_ieq (fun _ => ?_) (fun _ => ?_) | refine ifb_seq (fun _ => ?_) (fun _ => ?_)) <;> try simp (disch := first | (with_unfolding_all first | exact Lk.mk rfl | exact Seen.of rfl) | assumption | (fail_if_success with_reducible first | refine Seen.of ?_ | apply Sl.frame | apply Ow.frame); omega) only [go_sem, Int.reduceEq, Int.reduceLE, Int.reduceLT, Int.reduceNe, Int.reduceNeg, Int.reduceAdd, Int.reduceSub, Int.reduceMul, Int.reduceToNat, Nat.reduceLT, Nat.reduceLeDiff, Nat.reduceEqDiff, Nat.reduceAdd, Nat.reduceSub, Nat.reduceMul, reduceCtorEq, reduceIte, e0, e1, e2, hc, ho1, hpf, hen]))
            exact hKK _ _ (.inl ⟨hno, rfl, rfl⟩)
    · have hno : ¬ dataOk r.ans d e := fun h => hpf h.2.1
      refine vI ?_; repeat' (first
      | (with_reducible first | refine q_nn ?_ | refine q_nr ?_ | refine q_ne ?_ | refine q_en ?_ | refine q_er ?_ | refine q_es ?_ | refine q_gn ?_ | refine q_gr ?_ | refine q_ge ?_ | refine c_seq ?_ | refine c_block ?_ | refine c_scope ?_ | refine c_skip ?_ | refine c_label ?_ | refine c_ret ?_ | refine c_exit ?_ | (refine hK _ _ ?_; clear hK K) | refine seg_nil ?_) | ((with_reducible refine q_eo ?_ ?_); exact rfl)
      | ((with_reducible first | refine vO ?_ | refine c_reg fun K hK => ?_ | refine c_drw (by decide +kernel) fun K hK => ?_ | refine c_cond ?_ | refine seg_cons fun K hK => ?_ | show endW _ _ _ _ _ | refine ifb_dec (fun _ => ?_) (fun _ => ?_) | refine ifb_ieq (fun _ => ?_) (fun _ => ?_) | refine ifb_seq (fun _ => ?_) (fun _ => ?_)) <;> try simp (disch := first | (with_unfolding_all first | exact Lk.mk rfl | exact Seen.of rfl) | assumption | (fail_if_success with_reducible first | refine Seen.of ?_ | apply Sl.frame | apply Ow.frame); omega) only [go_sem, Int.reduceEq, Int.reduceLE, Int.reduceLT, Int.reduceNe, Int.reduceNeg, Int.reduceAdd, Int.reduceSub, Int.reduceMul, Int.reduceToNat, Nat.reduceLT, Nat.reduceLeDiff, Nat.reduceEqDiff, Nat.reduceAdd, Nat.reduceSub, Nat.reduceMul, reduceCtorEq, reduceIte, e0, e1, e2, hc, ho1, hpf]))
      exact hKK _ _ (.inl ⟨hno, rfl, rfl⟩)
end Go.Proofs.Ytanbckdhlmhdeaa
