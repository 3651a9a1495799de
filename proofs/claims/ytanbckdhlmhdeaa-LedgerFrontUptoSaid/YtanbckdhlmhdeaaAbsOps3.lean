/- Each operation of the abstract machine is the model's. Third part: slice expressions, append, copy, clear. -/
import Derived.Test.YtanbckdhlmhdeaaAbsOps2
set_option linter.unusedSimpArgs false
set_option linter.unusedVariables false
namespace Go.Abs
open Go.RowKit
section ops
variable {P : Program} {T : Tys} {w0 w : World} {ρ : Rho} {h h' : AH}

/-- A bound of a slice expression, written or not. -/
inductive OI : Option Int → Option Value → Prop
  | none : OI none none
  | some (k : IntKind) (n : Int) : OI (some n) (some (.int k n))
theorem run_sliceBound {k : IntKind} {n : Int} {y : Nat} {code : BoundsCode} (h0 : 0 ≤ n) (h1 : n ≤ y) : (Instr.sliceBound (.int k n) y code).run P w = .ok n.toNat w := by
  simp [Instr.sliceBound, asIntOf, h0, h1]
theorem run_sliceBounds {b : Bool} {len cap : Nat} {lo hi mx : Option Int} {vl vh vm : Option Value} (hl : OI lo vl) (hh : OI hi vh) (hm : OI mx vm) (hx : mx.isSome = true → hi.isSome = true)
    (h1 : 0 ≤ lo.getD 0) (h2 : lo.getD 0 ≤ hi.getD len) (h3 : hi.getD len ≤ mx.getD cap) (h4 : mx.getD cap ≤ cap) :
    (Instr.sliceBounds b len cap vl vh vm).run P w = .ok ((lo.getD 0).toNat, (hi.getD len).toNat, (mx.getD cap).toNat) w := by
  have hcap : (cap : Int).toNat = cap := by simp
  have hlen : (len : Int).toNat = len := by simp
  cases hm with
  | none =>
    cases hh with
    | none =>
      cases hl with
      | none => simp [Instr.sliceBounds]
      | some k n =>
        simp at h1 h2 h3
        have := run_sliceBound (P := P) (w := w) (k := k) (n := n) (y := len) (code := if b then .sliceB else .sliceB) h1 h2
        simp at this
        simp [Instr.sliceBounds, this]
    | some k' m =>
      simp at h1 h2 h3
      have e1 := run_sliceBound (P := P) (w := w) (k := k') (n := m) (y := cap) (code := if b then .sliceAcap else .sliceAlen) (by omega) h3
      cases hl with
      | none => simp [Instr.sliceBounds, e1]
      | some k n =>
        simp at h1 h2
        have := run_sliceBound (P := P) (w := w) (k := k) (n := n) (y := m.toNat) (code := .sliceB) h1 (by omega)
        simp [Instr.sliceBounds, e1, this]
  | some k3 m3 =>
    cases hh with
    | none => simp at hx
    | some k' m =>
      simp at h1 h2 h3 h4
      have e0 := run_sliceBound (P := P) (w := w) (k := k3) (n := m3) (y := cap) (code := if b then .slice3Acap else .slice3Alen) (by omega) h4
      have e1 := run_sliceBound (P := P) (w := w) (k := k') (n := m) (y := m3.toNat) (code := .slice3B) (by omega) (by omega)
      cases hl with
      | none => simp [Instr.sliceBounds, e0, e1]
      | some k n =>
        simp at h1 h2
        have := run_sliceBound (P := P) (w := w) (k := k) (n := n) (y := m.toNat) (code := .slice3C) h1 (by omega)
        simp [Instr.sliceBounds, e0, e1, this]
theorem okT_ne {t : TypeId} (h : okT T t = true) : (T t).desc ≠ .bad := by
  intro e; simp [okT, e] at h
theorem extract_list (s : List UInt8) (a b : Nat) : (⟨s.toArray⟩ : ByteArray).extract a b = ⟨((s.drop a).take (b - a)).toArray⟩ := by
  apply ByteArray.ext
  rw [ByteArray.data_extract]
  apply Array.ext'
  simp
theorem sliceA_run {t : TypeId} {x z : AV} {u : Value} {lo hi mx : Option Int} {vl vh vm : Option Value} (hT : TOk P T) (hr : sliceA T t x lo hi mx = some z) (hx : VR w0 ρ x u)
    (hl : OI lo vl) (hh : OI hi vh) (hm : OI mx vm) : ∃ r, (Instr.sliceAt t u vl vh vm).run P w = .ok r w ∧ VR w0 ρ z r := by
  unfold sliceA at hr
  split at hr
  · rename_i s hdd
    split at hr
    · simp at hr
    · rename_i hmx
      simp only at hr
      split at hr
      · rename_i hc
        simp at hr; subst hr
        cases hx
        obtain rfl : mx = none := by simpa using hmx
        cases hm
        have hu := und_string hT hdd
        have hsz : (⟨s.toArray⟩ : ByteArray).size = s.length := by simp [ByteArray.size]
        have := run_sliceBounds (P := P) (w := w) (b := false) (len := s.length) (cap := s.length) hl hh OI.none (by simp) hc.1 hc.2.1 (by simpa using hc.2.2) (by simp)
        refine ⟨_, ?_, .str _⟩
        simp [Instr.sliceAt, run_und hu, Instr.slice, hsz, this, extract_list]
      · simp at hr
  · rename_i e a len cap sz ex hdd
    simp only at hr
    split at hr
    · simp at hr
    · rename_i hokT
      have hok : (T e).desc ≠ .bad := okT_ne (by simpa using hokT)
      obtain ⟨ti, _, _, hti, _, _, hsize, _⟩ := hT.get hok
      split at hr
      · simp at hr
      · rename_i hmx
        split at hr
        · rename_i hc
          obtain ⟨c1, c2, c3, c4, c5⟩ := hc
          have hmx' : mx.isSome = true → hi.isSome = true := fun hs => by cases hi <;> simp_all
          have hu := und_slice hT hdd
          have hAt : ∀ (A : Option Addr) (cap' : Nat), cap ≤ cap' → (Instr.sliceAt t (.slice A len cap') vl vh vm).run P w =
              .ok (.slice (if (mx.getD cap').toNat = (lo.getD 0).toNat then A else A.map (·.add ((lo.getD 0).toNat * (T e).size))) ((hi.getD len).toNat - (lo.getD 0).toNat) ((mx.getD cap').toNat - (lo.getD 0).toNat)) w := by
            intro A cap' hcc
            have h3 : hi.getD len ≤ mx.getD cap' := by cases mx <;> simp_all; omega
            have h4 : mx.getD cap' ≤ (cap' : Int) := by cases mx <;> simp_all; omega
            have := run_sliceBounds (P := P) (w := w) (b := true) (len := len) (cap := cap') hl hh hm hmx' c1 c2 h3 h4
            simp [Instr.sliceAt, run_und hu, Instr.slice, this, run_size hti, hsize]
          split at hr
          · simp at hr; subst hr
            cases hx
            refine ⟨_, (hAt none 0 (Nat.le_refl _)).trans ?_, .slice0 _ _⟩
            have e1 : (hi.getD (0 : Nat)).toNat - (lo.getD 0).toNat = 0 := by omega
            have e2 : (mx.getD (0 : Nat)).toNat - (lo.getD 0).toNat = 0 := by omega
            rw [e1, e2]
            congr 2
            split <;> rfl
          · rename_i i o
            split at hr
            · rename_i hsz
              simp at hr; subst hr
              cases hx with
              | sliceE _ _ _ b =>
                refine ⟨_, hAt (some b) 0 (Nat.le_refl _), ?_⟩
                have e1 : (hi.getD (0 : Nat)).toNat - (lo.getD 0).toNat = 0 := by omega
                have e2 : (mx.getD (0 : Nat)).toNat - (lo.getD 0).toNat = 0 := by omega
                have e3 : (mx.getD (0 : Nat)).toNat = (lo.getD 0).toNat := by omega
                rw [e1, e2, if_pos e3]
                exact .sliceE _ _ _ _
              | slice _ _ _ _ _ _ p cap' hp h1 h2 h3 h4 =>
                refine ⟨_, hAt _ cap' h2, ?_⟩
                have hmm : mx.getD (cap : Int) ≤ mx.getD (cap' : Int) := by cases mx <;> simp_all
                have hm4 : mx.getD (cap' : Int) ≤ (cap' : Int) := by cases mx <;> simp_all; omega
                by_cases e3 : (mx.getD (cap' : Int)).toNat = (lo.getD 0).toNat
                · rw [if_pos e3, show (hi.getD (len : Int)).toNat - (lo.getD 0).toNat = 0 by omega, show (mx.getD (cap' : Int)).toNat - (lo.getD 0).toNat = 0 by omega, show (mx.getD (cap : Int)).toNat - (lo.getD 0).toNat = 0 by omega]
                  exact .sliceE _ _ _ _
                · rw [if_neg e3]
                  simp only [Option.map_some, add_none]
                  rw [Nat.add_assoc, ← hsz]
                  refine .slice _ _ _ _ _ _ p _ hp (by omega) (by omega) ?_ ?_
                  · intro hex
                    simp at hex
                    rcases hex with hex | hex
                    · have := h3 hex; rw [this]
                    · cases mx with
                      | none => simp at hex
                      | some m => rfl
                  · have k1 : ((mx.getD (cap' : Int)).toNat - (lo.getD 0).toNat) + (lo.getD 0).toNat ≤ cap' := by omega
                    have k2 := Nat.mul_le_mul_right sz k1
                    rw [Nat.add_mul] at k2
                    omega
            · simp at hr
        · simp at hr
  · rename_i e row off len cap sz hdd
    simp only at hr
    split at hr
    · simp at hr
    · rename_i hokT
      have hok : (T e).desc ≠ .bad := okT_ne (by simpa using hokT)
      obtain ⟨ti, _, _, hti, _, _, hsize, _⟩ := hT.get hok
      split at hr
      · simp at hr
      · rename_i hmx
        split at hr
        · rename_i hc
          obtain ⟨c1, c2, c3, c4, c5, hsz⟩ := hc
          simp at hr; subst hr
          have hmx' : mx.isSome = true → hi.isSome = true := fun hs => by cases hi <;> simp_all
          have hu := und_slice hT hdd
          have hb := run_sliceBounds (P := P) (w := w) (b := true) (len := len) (cap := cap) hl hh hm hmx' c1 c2 c3 c4
          have hAt : ∀ (A : Option Addr), (Instr.sliceAt t (.slice A len cap) vl vh vm).run P w =
              .ok (.slice (if (mx.getD cap).toNat = (lo.getD 0).toNat then A else A.map (·.add ((lo.getD 0).toNat * (T e).size))) ((hi.getD len).toNat - (lo.getD 0).toNat) ((mx.getD cap).toNat - (lo.getD 0).toNat)) w := by
            intro A
            simp [Instr.sliceAt, run_und hu, Instr.slice, hb, run_size hti, hsize]
          cases hx with
          | isliceE _ _ _ b =>
            refine ⟨_, hAt (some b), ?_⟩
            have e1 : (hi.getD (0 : Nat)).toNat - (lo.getD 0).toNat = 0 := by omega
            have e2 : (mx.getD (0 : Nat)).toNat - (lo.getD 0).toNat = 0 := by omega
            have e3 : (mx.getD (0 : Nat)).toNat = (lo.getD 0).toNat := by omega
            rw [e1, e2, if_pos e3]
            exact .isliceE _ _ _ _
          | islice _ _ _ _ _ b s vs hvs hcell h1 =>
            refine ⟨_, hAt _, ?_⟩
            by_cases e3 : (mx.getD (cap : Int)).toNat = (lo.getD 0).toNat
            · rw [if_pos e3, show (hi.getD (len : Int)).toNat - (lo.getD 0).toNat = 0 by omega, show (mx.getD (cap : Int)).toNat - (lo.getD 0).toNat = 0 by omega]
              exact .isliceE _ _ _ _
            · rw [if_neg e3]
              simp only [Option.map_some, add_none]
              rw [Nat.add_assoc, ← hsz]
              exact .islice _ _ _ _ _ b s vs hvs hcell (by omega)
        · simp at hr
  · simp at hr
end ops
end Go.Abs
