/- pack: what the laws share: arguments; how the encoder goes on. -/
import Derived.Test.YtmpeofjfagdgkaaPkBeg
import Derived.Test.YtmpeofjfagdgkaaAbsReadB
import Derived.Test.YtmpeofjfagdgkaaAbspuSeat
set_option linter.unusedSimpArgs false
set_option linter.unusedVariables false
namespace Go.Proofs.Ytmpeofjfagdgkaa
open Go.Abs
set_option maxRecDepth 100000
theorem dat_fieldsZ {n i : Nat} {v : AV} (hd : DatZ Try.T (n + 3) 28 [v]) : ∃ l, Sl EF AH.empty i v l ∧ l.length ≤ 3600000000000 := by
  obtain ⟨l, h1, _, h2⟩ := dat_sliceB (E := EF) (Wf := fun _ => True) (h := AH.empty) (i := i) Try.Td28 (fun c hc => by
    obtain ⟨v0, g0, d0⟩ := datB_f1 (b := true) (ft := 9) (off := 0) Try.Td45 hc (by simp) rfl (by decide)
    obtain ⟨v1, g1, d1⟩ := datB_f1 (b := true) (ft := 9) (off := 1) Try.Td45 hc (by simp) rfl (by decide)
    obtain ⟨v2, g2, d2⟩ := datB_f1 (b := true) (ft := 4) (off := 2) Try.Td45 hc (by simp) rfl (by decide)
    obtain ⟨x, rfl, _⟩ := datB_str rfl d0
    obtain ⟨y, rfl, _⟩ := datB_str rfl d1
    obtain ⟨z, rfl⟩ := datB_bool rfl d2
    exact ⟨(x, y, z), list_3 (dat_len Try.Td45 hc.dat) g0 g1 g2, trivial⟩) rfl hd
  refine ⟨l, h1, ?_⟩
  rcases h2 with rfl | ⟨c, h3, h4⟩
  · simp
  · have hb : (Try.T 45).bytes = 40 := rfl
    have hr : reachBytes = 140737488351232 := rfl
    rw [hb, hr] at h4
    omega
theorem bodyS_facts : ∀ (l : List Fd) (s : En), (bodyS s l).known = s.known ∧ (bodyS s l).least = s.least ∧ (bodyS s l).last = s.last
  | [], s => ⟨rfl, rfl, rfl⟩
  | x :: r, s => by
    obtain ⟨a, b, c⟩ := bodyS_facts r (fldS s x)
    obtain ⟨_, a', b', c'⟩ := fldS_facts s x
    exact ⟨a.trans a', b.trans b', c.trans c'⟩
theorem mn_in {x y a b : Int} (h1 : a ≤ x ∧ x ≤ b) (h2 : a ≤ y ∧ y ≤ b) : a ≤ mn x y ∧ mn x y ≤ b := by
  unfold mn; split <;> omega
theorem limS_ok {s : En} (m : Int) (h : EnOk s) : EnOk (limS s m) := by
  unfold limS
  split
  · exact h
  · rename_i hc
    have hm : 0 ≤ mn m 4096 ∧ mn m 4096 ≤ 4096 := by unfold mn; split <;> omega
    exact ⟨h.k, mn_in h.e hm, hm⟩
theorem blkS_ok {s : En} (fs : List Fd) (h : EnOk s) : EnOk (blkS s fs) := by
  unfold blkS
  split
  · obtain ⟨a, b, c⟩ := bodyS_facts fs (preS s)
    obtain ⟨p1, p2⟩ := pre_known s
    have a' : (preS s).known = s.last := p1
    have b' : (preS s).least = s.last := rfl
    have c' : (preS s).last = s.last := p2
    exact ⟨by rw [a, a']; exact h.t, by rw [b, b']; exact h.t, by rw [c, c']; exact h.t⟩
  · exact h
theorem blk_few {fs : List Fd} (h : blkE fs = 0) : fs.length ≤ 1024 ∧ szs fs ≤ 32768 ∧ fs.any tooLong = false := by
  unfold blkE at h
  have hn := szs_nn fs
  split at h
  · omega
  · rename_i h1
    split at h
    · omega
    · exact ⟨by omega, by omega, by cases hq : fs.any tooLong with | false => rfl | true => exact absurd hq h1⟩
theorem preS_len (s : En) : (preS s).l.length ≤ s.l.length := up_len s
theorem en0_ok : EnOk en0 := ⟨by decide, by decide, by decide⟩
/-- Two encoders, of code and reference, apart from each other. -/
structure Two (h : AH) (e p i e2 p2 i2 : Nat) (s : En) : Prop where
  c : EnC h e p i s
  r : EnR h e2 p2 i2 s
  n1 : ¬ e = e2 ∧ ¬ e = p2 ∧ ¬ e = i2
  n2 : ¬ p = e2 ∧ ¬ p = p2 ∧ ¬ p = i2
  n3 : ¬ i = e2 ∧ ¬ i = p2 ∧ ¬ i = i2
theorem EnC.ps {h : AH} {e p i : Nat} {s : En} (t : EnC h e p i s) : p < h.size := by obtain ⟨_, ⟨_, t⟩, _, _, _⟩ := t; exact t.ps
theorem EnC.is {h : AH} {e p i : Nat} {s : En} (t : EnC h e p i s) : i < h.size := by obtain ⟨_, ⟨_, t⟩, _, _, _⟩ := t; exact t.is
theorem EnR.ps {h : AH} {e p i : Nat} {s : En} (t : EnR h e p i s) : p < h.size := by obtain ⟨_, ⟨_, t⟩, _, _, _⟩ := t; exact t.ps
theorem EnR.is {h : AH} {e p i : Nat} {s : En} (t : EnR h e p i s) : i < h.size := by obtain ⟨_, ⟨_, t⟩, _, _, _⟩ := t; exact t.is
theorem Two.frame {h h1 : AH} {e p i e2 p2 i2 : Nat} {s : En} (t : Two h e p i e2 p2 i2 s) (k : Keeps h.size h h1) : Two h1 e p i e2 p2 i2 s := by
  obtain ⟨c, r, n1, n2, n3⟩ := t
  exact ⟨c.frame (fun b hb _ => k.2 b hb) k.1, r.frame (fun b hb _ => k.2 b hb) k.1, n1, n2, n3⟩
end Go.Proofs.Ytmpeofjfagdgkaa
