/- ledger: requests as plain data, how they lie in memory; the leaves of the code: bytes.Equal, HasPrefix, Clone, slices.Equal. -/
import Derived.Test.YtanbckdhlmhdeaaAbsReadB
import Derived.Test.YtanbckdhlmhdeaaAbsFledger
import Derived.Test.YtanbckdhlmhdeaaProg
set_option linter.unusedSimpArgs false
set_option linter.unusedVariables false
namespace Go.Proofs.Ytanbckdhlmhdeaa
open Go.Abs
set_option maxRecDepth 100000
abbrev Fd := List UInt8 × List UInt8 × Bool
def EF : Enc Fd := ⟨3, fun x => [.str x.1, .str x.2.1, .bool x.2.2], by decide, fun _ => rfl, fun _ => rfl⟩
theorem EFf {a b : List UInt8} {c : Bool} : EF.f (a, b, c) = [.str a, .str b, .bool c] := rfl
theorem bang_some {α : Type} [Inhabited α] {l : List α} {k : Nat} (h : k < l.length) : l[k]? = some (l[k]!) := by rw [getElem!_pos l k h]; exact List.getElem?_eq_getElem h
/-- One direction of a request. -/
structure Wy where
  has : Bool
  fs : List Fd
  first : Bool
  bytes : List UInt8
  ended : Bool
  told : Bool
  pos : Nat
  over : Bool
/-- A request. -/
structure Rq where
  id : Int
  ask : Wy
  ans : Wy
  verdict : Int
/-- A slice of one's own, or none. -/
inductive OwN {α : Type} (E : Enc α) (h : AH) : Option Nat → AV → List α → Prop
  | nil (ex : Bool) (z : Nat) : OwN E h none (.slice none 0 0 z ex) []
  | own (i : Nat) (v : AV) (l : List α) (o : Ow E h i v l) (hs : i < h.size) : OwN E h (some i) v l
section own
variable {α : Type} {E : Enc α} {h h' : AH} {g : Option Nat} {v : AV} {l : List α}
theorem OwN.ow (o : OwN E h g v l) : Ow E h (g.getD h.size) v l := by
  cases o with
  | nil ex z => exact .nil0 ex z
  | own i v l o hs => exact o
theorem OwN.sl (o : OwN E h g v l) : Sl E h (g.getD h.size) v l := o.ow.sl
theorem OwN.one (o : OwN E h g v l) : v.one = true := o.ow.one
theorem OwN.cells (o : OwN E h g v l) : v.cells = [v] := o.ow.cells
theorem OwN.lt (o : OwN E h g v l) {i : Nat} (hi : g = some i) : i < h.size := by
  cases o with
  | nil ex z => cases hi
  | own i v l o hs => cases hi; exact hs
theorem OwN.frame (o : OwN E h g v l) (hf : ∀ i, g = some i → h'.get i = h.get i) (hz : h.size ≤ h'.size) : OwN E h' g v l := by
  cases o with
  | nil ex z => exact .nil ex z
  | own i v l o hs => exact .own i v l (o.frame (fun _ => hf i rfl) hz) (by omega)
/-- A slice that was made of an own one. -/
theorem OwN.of {i i' b : Nat} (o : Ow E h i' v l) (hi : i' = i ∨ b ≤ i') (hg : g.getD b = i) : ∃ g', OwN E h g' v l ∧ (g' = none ∨ g' = g ∨ ∃ j, g' = some j ∧ b ≤ j) := by
  cases o with
  | nil0 ex z => exact ⟨none, .nil ex z, .inl rfl⟩
  | blk n cap ex l junk q hs hn hc hj =>
    refine ⟨some i', .own _ _ _ (.blk n cap ex l junk q hs hn hc hj) hs, ?_⟩
    rcases hi with rfl | hi
    · cases g with
      | none => simp at hg; exact .inr (.inr ⟨_, rfl, by omega⟩)
      | some j => simp at hg; subst hg; exact .inr (.inl rfl)
    · exact .inr (.inr ⟨_, rfl, hi⟩)
end own
theorem neF {a b : Fd} : binA Try.T .neq 53 (.agg (EF.f a)) (.agg (EF.f b)) = some (.bool (!(decide (a = b)))) := by
  obtain ⟨a1, a2, a3⟩ := a
  obtain ⟨b1, b2, b3⟩ := b
  have e : (Try.T 53).eqOk = true := by rfl
  have hs : (Try.T 9).desc = .string := rfl
  have hb : (Try.T 4).desc = .bool := rfl
  simp only [binA, Try.Td53, e, EFf, Bool.not_true, Bool.false_eq_true, if_false, eqFields, List.getElem?_cons_zero, List.getElem?_cons_succ, hs, hb, eqCell]
  by_cases h1 : a1 = b1
  · by_cases h2 : a2 = b2
    · by_cases h3 : a3 = b3
      · subst h1; subst h2; subst h3; simp
      · have h3' : (a3 == b3) = false := by simpa using h3
        subst h1; subst h2; rw [h3']; simp [h3]
    · have h2' : (a2 == b2) = false := by simpa using h2
      subst h1; rw [h2']; simp [h2]
  · have h1' : (a1 == b1) = false := by simpa using h1
    rw [h1']; simp [h1]
set_option maxHeartbeats 4000000 in
theorem bytesEqual (a b : AV) (i j : Nat) (x y : List UInt8) (h0 : AH) (ha : Sl E8 h0 i a x) (hb : Sl E8 h0 j b y) :
    callW Try.prog Try.T 47 [a, b] h0 fun v h' => v = .bool (decide (x = y)) ∧ h' = h0 := by
  refine callW_in (n := 10) (rs := [.tmp 4]) (m := 10) Try.func47 rfl rfl rfl rfl fun tr ht => ?_; have e0 := ht 0 _ rfl; have e1 := ht 1 _ rfl; clear ht
  by_cases hc : x = y
  · repeat' (first
      | (with_reducible first | refine q_nn ?_ | refine q_nr ?_ | refine q_ne ?_ | refine q_en ?_ | refine q_er ?_ | refine q_es ?_ | refine q_gn ?_ | refine q_gr ?_ | refine q_ge ?_ | refine c_seq ?_ | refine c_block ?_ | refine c_scope ?_ | refine c_skip ?_ | refine c_label ?_ | refine c_ret ?_ | refine c_exit ?_ | (refine hK _ _ ?_; clear hK K) | refine seg_nil ?_) | ((with_reducible refine q_eo ?_ ?_); exact rfl)
      | ((with_reducible first | refine c_reg fun K hK => ?_ | refine c_drw (by decide +kernel) fun K hK => ?_ | refine c_cond ?_ | refine seg_cons fun K hK => ?_ | show endW _ _ _ _ _ | refine ifb_dec (fun _ => ?_) (fun _ => ?_) | refine ifb_ieq (fun _ => ?_) (fun _ => ?_) | refine ifb_seq (fun _ => ?_) (fun _ => ?_)) <;> try simp (disch := first | (with_unfolding_all first | exact Lk.mk rfl | exact Seen.of rfl) | assumption | (fail_if_success with_reducible first | refine Seen.of ?_ | apply Sl.frame | apply Ow.frame); omega) only [go_sem, Int.reduceEq, Int.reduceLE, Int.reduceLT, Int.reduceNe, Int.reduceNeg, Int.reduceAdd, Int.reduceSub, Int.reduceMul, Int.reduceToNat, Nat.reduceLT, Nat.reduceLeDiff, Nat.reduceEqDiff, Nat.reduceAdd, Nat.reduceSub, Nat.reduceMul, reduceCtorEq, reduceIte, e0, e1, hc]))
  · repeat' (first
      | (with_reducible first | refine q_nn ?_ | refine q_nr ?_ | refine q_ne ?_ | refine q_en ?_ | refine q_er ?_ | refine q_es ?_ | refine q_gn ?_ | refine q_gr ?_ | refine q_ge ?_ | refine c_seq ?_ | refine c_block ?_ | refine c_scope ?_ | refine c_skip ?_ | refine c_label ?_ | refine c_ret ?_ | refine c_exit ?_ | (refine hK _ _ ?_; clear hK K) | refine seg_nil ?_) | ((with_reducible refine q_eo ?_ ?_); exact rfl)
      | ((with_reducible first | refine c_reg fun K hK => ?_ | refine c_drw (by decide +kernel) fun K hK => ?_ | refine c_cond ?_ | refine seg_cons fun K hK => ?_ | show endW _ _ _ _ _ | refine ifb_dec (fun _ => ?_) (fun _ => ?_) | refine ifb_ieq (fun _ => ?_) (fun _ => ?_) | refine ifb_seq (fun _ => ?_) (fun _ => ?_)) <;> try simp (disch := first | (with_unfolding_all first | exact Lk.mk rfl | exact Seen.of rfl) | assumption | (fail_if_success with_reducible first | refine Seen.of ?_ | apply Sl.frame | apply Ow.frame); omega) only [go_sem, Int.reduceEq, Int.reduceLE, Int.reduceLT, Int.reduceNe, Int.reduceNeg, Int.reduceAdd, Int.reduceSub, Int.reduceMul, Int.reduceToNat, Nat.reduceLT, Nat.reduceLeDiff, Nat.reduceEqDiff, Nat.reduceAdd, Nat.reduceSub, Nat.reduceMul, reduceCtorEq, reduceIte, e0, e1, hc]))
set_option maxHeartbeats 4000000 in
theorem hasPrefix (a b : AV) (i j : Nat) (x y : List UInt8) (h0 : AH) (ha : Sl E8 h0 i a x) (hb : Sl E8 h0 j b y) :
    callW Try.prog Try.T 44 [a, b] h0 fun v h' => v = .bool (decide (y <+: x)) ∧ h' = h0 := by
  refine callW_in (n := 18) (rs := [.tmp 4]) (m := 18) Try.func44 rfl rfl rfl rfl fun tr ht => ?_; have e0 := ht 0 _ rfl; have e1 := ht 1 _ rfl; clear ht
  by_cases hc : y.length ≤ x.length
  · repeat' (first
      | (with_reducible first | refine q_nn ?_ | refine q_nr ?_ | refine q_ne ?_ | refine q_en ?_ | refine q_er ?_ | refine q_es ?_ | refine q_gn ?_ | refine q_gr ?_ | refine q_ge ?_ | refine c_seq ?_ | refine c_block ?_ | refine c_scope ?_ | refine c_skip ?_ | refine c_label ?_ | refine c_ret ?_ | refine c_exit ?_ | (refine hK _ _ ?_; clear hK K) | refine seg_nil ?_) | ((with_reducible refine q_eo ?_ ?_); exact rfl)
      | ((with_reducible first | refine c_reg fun K hK => ?_ | refine c_drw (by decide +kernel) fun K hK => ?_ | refine c_cond ?_ | refine seg_cons fun K hK => ?_ | show endW _ _ _ _ _ | refine ifb_dec (fun _ => ?_) (fun _ => ?_) | refine ifb_ieq (fun _ => ?_) (fun _ => ?_) | refine ifb_seq (fun _ => ?_) (fun _ => ?_)) <;> try simp (disch := first | (with_unfolding_all first | exact Lk.mk rfl | exact Seen.of rfl) | assumption | (fail_if_success with_reducible first | refine Seen.of ?_ | apply Sl.frame | apply Ow.frame); omega) only [go_sem, Int.reduceEq, Int.reduceLE, Int.reduceLT, Int.reduceNe, Int.reduceNeg, Int.reduceAdd, Int.reduceSub, Int.reduceMul, Int.reduceToNat, Nat.reduceLT, Nat.reduceLeDiff, Nat.reduceEqDiff, Nat.reduceAdd, Nat.reduceSub, Nat.reduceMul, reduceCtorEq, reduceIte, e0, e1]))
    have hp := ha.part (lo := 0) (hi := (y.length : Int)) (by omega) (by omega) (by omega)
    refine callM_of (bytesEqual _ _ i j _ _ h0 hp hb) ?_
    rintro v h1 ⟨rfl, rfl⟩
    have : List.take (y.length - 0) x = y ↔ y <+: x := by
      rw [Nat.sub_zero, List.prefix_iff_eq_take]; exact eq_comm
    refine vI ?_; repeat' (first
      | (with_reducible first | refine q_nn ?_ | refine q_nr ?_ | refine q_ne ?_ | refine q_en ?_ | refine q_er ?_ | refine q_es ?_ | refine q_gn ?_ | refine q_gr ?_ | refine q_ge ?_ | refine c_seq ?_ | refine c_block ?_ | refine c_scope ?_ | refine c_skip ?_ | refine c_label ?_ | refine c_ret ?_ | refine c_exit ?_ | (refine hK _ _ ?_; clear hK K) | refine seg_nil ?_) | ((with_reducible refine q_eo ?_ ?_); exact rfl)
      | ((with_reducible first | refine vO ?_ | refine c_reg fun K hK => ?_ | refine c_drw (by decide +kernel) fun K hK => ?_ | refine c_cond ?_ | refine seg_cons fun K hK => ?_ | show endW _ _ _ _ _ | refine ifb_dec (fun _ => ?_) (fun _ => ?_) | refine ifb_ieq (fun _ => ?_) (fun _ => ?_) | refine ifb_seq (fun _ => ?_) (fun _ => ?_)) <;> try simp (disch := first | (with_unfolding_all first | exact Lk.mk rfl | exact Seen.of rfl) | assumption | (fail_if_success with_reducible first | refine Seen.of ?_ | apply Sl.frame | apply Ow.frame); omega) only [go_sem, Int.reduceEq, Int.reduceLE, Int.reduceLT, Int.reduceNe, Int.reduceNeg, Int.reduceAdd, Int.reduceSub, Int.reduceMul, Int.reduceToNat, Nat.reduceLT, Nat.reduceLeDiff, Nat.reduceEqDiff, Nat.reduceAdd, Nat.reduceSub, Nat.reduceMul, reduceCtorEq, reduceIte, e0, e1]))
    congr 1
    exact decide_eq_decide.2 this
  · have : ¬ (y <+: x) := fun h => hc h.length_le
    repeat' (first
      | (with_reducible first | refine q_nn ?_ | refine q_nr ?_ | refine q_ne ?_ | refine q_en ?_ | refine q_er ?_ | refine q_es ?_ | refine q_gn ?_ | refine q_gr ?_ | refine q_ge ?_ | refine c_seq ?_ | refine c_block ?_ | refine c_scope ?_ | refine c_skip ?_ | refine c_label ?_ | refine c_ret ?_ | refine c_exit ?_ | (refine hK _ _ ?_; clear hK K) | refine seg_nil ?_) | ((with_reducible refine q_eo ?_ ?_); exact rfl)
      | ((with_reducible first | refine c_reg fun K hK => ?_ | refine c_drw (by decide +kernel) fun K hK => ?_ | refine c_cond ?_ | refine seg_cons fun K hK => ?_ | show endW _ _ _ _ _ | refine ifb_dec (fun _ => ?_) (fun _ => ?_) | refine ifb_ieq (fun _ => ?_) (fun _ => ?_) | refine ifb_seq (fun _ => ?_) (fun _ => ?_)) <;> try simp (disch := first | (with_unfolding_all first | exact Lk.mk rfl | exact Seen.of rfl) | assumption | (fail_if_success with_reducible first | refine Seen.of ?_ | apply Sl.frame | apply Ow.frame); omega) only [go_sem, Int.reduceEq, Int.reduceLE, Int.reduceLT, Int.reduceNe, Int.reduceNeg, Int.reduceAdd, Int.reduceSub, Int.reduceMul, Int.reduceToNat, Nat.reduceLT, Nat.reduceLeDiff, Nat.reduceEqDiff, Nat.reduceAdd, Nat.reduceSub, Nat.reduceMul, reduceCtorEq, reduceIte, e0, e1, this]))
end Go.Proofs.Ytanbckdhlmhdeaa
