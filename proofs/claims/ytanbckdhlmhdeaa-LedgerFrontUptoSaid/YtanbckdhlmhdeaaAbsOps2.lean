/- Each operation of the abstract machine is the model's. Second part: operations on memory. -/
import Derived.Test.YtanbckdhlmhdeaaAbsOps
import Derived.Laws.BytesString
set_option linter.unusedSimpArgs false
set_option linter.unusedVariables false
namespace Go.Abs
open Go.RowKit
section ops
variable {P : Program} {T : Tys} {w0 w : World} {ρ : Rho} {h h' : AH}

theorem cut_length {cs c : List AV} {o n : Nat} (hc : cut cs o n = some c) : c.length = n := by
  unfold cut at hc
  split at hc
  · simp at hc; subst hc; simp; omega
  · simp at hc
theorem run_load_one {a : Addr} {v : Value} (hc : w.cell? a = some v) : (load a).run P w = .ok v w := by
  simp [load, Sem.run, hc]
theorem VRs.single {a : AV} {us : List Value} (hv : VRs w0 ρ [a] us) : ∃ u, us = [u] ∧ VR w0 ρ a u := by
  cases hv with | cons _ u _ vs h hs => cases hs; exact ⟨u, rfl, h⟩

theorem loadA_run {t : TypeId} {x z : AV} {u : Value} (hT : TOk P T) (H : WR w0 ρ h w) (hr : loadA T h t x = some z) (hx : VR w0 ρ x u) :
    ∃ r, (Instr.loadAt t u).run P w = .ok r w ∧ VR w0 ρ z r := by
  unfold loadA at hr
  simp only at hr
  split at hr
  · simp at hr
  · rename_i hne
    have hbad : (T t).desc ≠ .bad := fun e => hne e
    obtain ⟨i, D, zz, hi, hu, hd, hsz, _⟩ := hT.get hbad
    have hag := run_isAgg (P := P) (w := w) hu (by rw [hd]; exact hbad)
    rw [hd] at hag
    split at hr
    · rename_i hagg
      rw [hagg] at hag
      have key : ∀ (b o : Nat) (cs : List AV) (us : List Value), VRs w0 ρ cs us → us.length = (T t).size → (∀ j v, us[j]? = some v → w.cell? ⟨b, o + j, none⟩ = some v) →
          ∃ r, (Instr.loadAt t (.pointer (some ⟨b, o, none⟩))).run P w = .ok r w ∧ VR w0 ρ (.agg cs) r := by
        intro b o cs us hv hl hc
        refine ⟨_, ?_, .agg _ _ hv⟩
        have := run_loadCells_row (P := P) hc
        simp [Instr.loadAt, Instr.sureAddr, loadVar, hag, run_size hi, hsz, ← hl, this]
      split at hr
      · rename_i i' o'
        obtain ⟨cs, hcs, rfl⟩ := Option.map_eq_some_iff.1 hr
        cases hx with
        | ptr _ _ p hp =>
          obtain ⟨us, hv, hl, hc, _⟩ := H.read hcs hp
          exact key _ _ _ _ hv hl hc
      · rename_i row off
        obtain ⟨cs, hcs, rfl⟩ := Option.map_eq_some_iff.1 hr
        cases hx with
        | iptr _ _ b s vs hvs hc =>
          obtain ⟨us, hv, hl, hcu⟩ := H.oldRow hvs hc hcs
          exact key _ _ _ _ hv hl hcu
      · simp at hr
    · rename_i hagg
      have hagg' : (T t).desc.isAgg = false := by simpa using hagg
      rw [hagg'] at hag
      split at hr
      · rename_i i' o'
        split at hr
        · rename_i v hcs
          simp at hr; subst hr
          cases hx with
          | ptr _ _ p hp =>
            obtain ⟨us, hv, hl, hc, _⟩ := H.read hcs hp
            obtain ⟨y, rfl, hy⟩ := hv.single
            refine ⟨y, ?_, hy⟩
            have := hc 0 y rfl
            simp only [Nat.add_zero] at this
            simp [Instr.loadAt, Instr.sureAddr, loadVar, hag, this]
        · simp at hr
      · rename_i row off
        cases hx with
        | iptr _ _ b s vs hvs hc =>
          obtain ⟨y, hy, hvy⟩ := hvs.get hr
          refine ⟨y, ?_, hvy⟩
          have := H.old (hc off y hy)
          simp [Instr.loadAt, Instr.sureAddr, loadVar, hag, this]
      · simp at hr

theorem storeA_run {t : TypeId} {x v : AV} {u y : Value} (hT : TOk P T) (H : WR w0 ρ h w) (hr : storeA T h t x v = some h') (hx : VR w0 ρ x u) (hy : VR w0 ρ v y) :
    ∃ w', (Instr.storeAt t u y).run P w = .ok () w' ∧ WR w0 ρ h' w' := by
  unfold storeA at hr
  split at hr
  · rename_i i o
    split at hr
    · simp at hr
    · rename_i hne
      have hbad : (T t).desc ≠ .bad := fun e => hne e
      obtain ⟨ti, D, zz, hi, hu, hd, hsz, _⟩ := hT.get hbad
      split at hr
      · rename_i hc
        cases hx with
        | ptr _ _ p hp =>
          obtain ⟨w', hrun, H'⟩ := H.write (P := P) hr hp hy.cells hc.2
          refine ⟨w', ?_, H'⟩
          have hl := hy.cells.length
          have e : y.cells.size = ti.size := by rw [hsz, ← hc.1, hl]; simp
          simp [Instr.storeAt, Instr.sureAddr, storeVar, run_size hi, e, hrun]
      · simp at hr
  · simp at hr

theorem zero_VRs {t : TypeId} (hT : TOk P T) (hb : (T t).desc ≠ .bad) : ∃ i z, P.info? t = some i ∧ i.zero = some z ∧ VRs w0 ρ (T t).zero z.cells.toList ∧ (T t).zero.all AV.one = true ∧ i.size = (T t).size ∧ i.bytes = (T t).bytes := by
  obtain ⟨i, D, z, hi, hu, hd, hsz, hby, hz, hv, h1, _⟩ := hT.get hb
  exact ⟨i, z, hi, hz, VRs.ofVals hv, h1, hsz, hby⟩
theorem newVar_run (H : WR w0 ρ h w) {cs : List AV} {y : Value} (hv : VRs w0 ρ cs y.cells.toList) (h1 : cs.all AV.one = true) (e : TypeId) :
    ∃ ρ' u w', (do let a ← newVar e y; pure (.pointer (some a)) : Sem Value).run P w = .ok u w' ∧ Ext ρ ρ' ∧ WR w0 ρ' (h.push (.cells cs)) w' ∧ VR w0 ρ' (.ptr (some (h.size, 0))) u := by
  obtain ⟨ρ', he, hp, H'⟩ := H.pushCells hv h1 [] e (0, 0) (noFreeze_00 _)
  refine ⟨ρ', _, _, ?_, he, H', .ptr _ _ _ hp⟩
  simp [newVar, newRow]

/-! ### Texts and bytes -/
def byteVs (s : List UInt8) : List Value := s.map fun b => .int .u8 b.toNat
theorem byteVs_length (s : List UInt8) : (byteVs s).length = s.length := by simp [byteVs]
theorem ofBytes_VRs (s : List UInt8) : VRs w0 ρ (ofBytes s) (byteVs s) := by
  induction s with
  | nil => exact .nil
  | cons b r ih => exact .cons _ _ _ _ (.int _ _) ih
theorem ofBytes_one (s : List UInt8) : (ofBytes s).all AV.one = true := by
  simp [ofBytes, AV.one]
theorem bytesOf_VRs : ∀ {cs : List AV} {s : List UInt8} {us : List Value}, bytesOf cs = some s → VRs w0 ρ cs us → ∃ ns : List Int, us = ns.map (.int .u8) ∧ s = ns.map fun n => UInt8.ofNat n.toNat
  | [], s, us, hr, hv => by simp [bytesOf] at hr; subst hr; cases hv; exact ⟨[], rfl, rfl⟩
  | a :: r, s, us, hr, hv => by
    cases hv with
    | cons _ u _ vs hu hvs =>
      cases a with
      | int k n =>
        cases k with
        | u8 =>
          simp only [bytesOf] at hr
          obtain ⟨s', hs', rfl⟩ := Option.map_eq_some_iff.1 hr
          obtain ⟨ns, rfl, rfl⟩ := bytesOf_VRs hs' hvs
          cases hu
          exact ⟨n :: ns, rfl, rfl⟩
        | _ => simp [bytesOf] at hr
      | _ => simp [bytesOf] at hr
theorem foldl_push (ns : List Int) : ∀ (s : List UInt8), ns.foldl (fun (r : ByteArray) n => r.push (UInt8.ofNat n.toNat)) ⟨s.toArray⟩ = ⟨(s ++ ns.map fun n => UInt8.ofNat n.toNat).toArray⟩ := by
  induction ns with
  | nil => intro s; simp
  | cons n ns ih =>
    intro s
    have e : (⟨s.toArray⟩ : ByteArray).push (UInt8.ofNat n.toNat) = ⟨(s ++ [UInt8.ofNat n.toNat]).toArray⟩ := by
      apply ByteArray.ext; simp [ByteArray.push]
    rw [List.foldl_cons, e, ih]
    simp
theorem elems_run {sz n : Nat} {x : AV} {u : Value} {cs : List AV} (H : WR w0 ρ h w) (hr : elems h sz n x = some cs) (hx : VR w0 ρ x u) :
    ∃ us, (Builtin.firstCells sz n u).run P w = .ok us.toArray w ∧ VRs w0 ρ cs us ∧ cs.length = n * sz ∧ cs.all AV.one = true := by
  unfold elems at hr
  split at hr
  · split at hr
    · rename_i h0; simp at hr; subst hr; cases hx; exact ⟨[], by simp [Builtin.firstCells], .nil, by simp [h0], rfl⟩
    · simp at hr
  · rename_i i o len cap s ex
    split at hr
    · rename_i h0
      simp at hr; subst hr
      have e : n * sz = 0 := by rcases h0 with rfl | rfl <;> simp
      cases hx <;> exact ⟨[], by simp [Builtin.firstCells, e, loadCells, loadCellsFrom], .nil, by simp [e], rfl⟩
    · rename_i h0
      split at hr
      · rename_i hc
        cases hx with
        | sliceE => omega
        | slice _ _ _ _ _ _ p cap' hp h1 h2 h3 h4 =>
          obtain ⟨us, hv, hl, hcell, h1⟩ := H.read hr hp
          refine ⟨us, ?_, hv, by rw [hv.length, hl], h1⟩
          have := run_loadCells_row (P := P) hcell
          simp [Builtin.firstCells, ← hl, this]
      · simp at hr
  · rename_i row off len cap s
    split at hr
    · rename_i h0
      simp at hr; subst hr
      have e : n * sz = 0 := by rcases h0 with rfl | rfl <;> simp
      cases hx <;> exact ⟨[], by simp [Builtin.firstCells, e, loadCells, loadCellsFrom], .nil, by simp [e], rfl⟩
    · rename_i h0
      split at hr
      · rename_i hc
        split at hr
        · rename_i cs' hcut
          split at hr
          · rename_i hone
            simp at hr; subst hr
            cases hx with
            | isliceE => omega
            | islice _ _ _ _ _ b s' vs hvs hcell h1 =>
              obtain ⟨us, hv, hl, hcu⟩ := H.oldRow hvs hcell hcut
              refine ⟨us, ?_, hv, by rw [hv.length, hl], hone⟩
              have := run_loadCells_row (P := P) hcu
              simp [Builtin.firstCells, ← hl, this]
          · simp at hr
        · simp at hr
      · simp at hr
  · rename_i s
    split at hr
    · rename_i hc
      simp at hr; subst hr
      cases hx
      refine ⟨byteVs (s.take n), ?_, ofBytes_VRs _, by rw [hc.1]; simp [ofBytes]; omega, ofBytes_one _⟩
      have e : ((⟨s.toArray⟩ : ByteArray).extract 0 n).data = (s.take n).toArray := by
        simp [ByteArray.data_extract]
      simp [Builtin.firstCells, e, byteVs]
    · simp at hr
  · simp at hr
theorem cut_mem {cs c : List AV} {o n : Nat} (hc : cut cs o n = some c) {x : AV} (hx : x ∈ c) : x ∈ cs := by
  unfold cut at hc
  split at hc
  · simp at hc; subst hc; exact List.mem_of_mem_drop (List.mem_of_mem_take hx)
  · simp at hc

theorem und_of (hT : TOk P T) {t : TypeId} (hb : (T t).desc ≠ .bad) : ∃ d, P.underlying t = some d ∧ tdOf d = (T t).desc := by
  obtain ⟨i, d, z, _, hu, hd, _⟩ := hT.get hb
  exact ⟨d, hu, hd⟩
theorem und_slice (hT : TOk P T) {t e : TypeId} (hb : (T t).desc = .slice e) : P.underlying t = some (.slice e) := by
  obtain ⟨d, hu, hd⟩ := und_of hT (t := t) (by rw [hb]; simp)
  rw [hu, tdOf_slice (hd.trans hb)]
theorem und_int (hT : TOk P T) {t : TypeId} {k : IntKind} (hb : (T t).desc = .int k) : P.underlying t = some (.int k) := by
  obtain ⟨d, hu, hd⟩ := und_of hT (t := t) (by rw [hb]; simp)
  rw [hu, tdOf_int (hd.trans hb)]
theorem und_string (hT : TOk P T) {t : TypeId} (hb : (T t).desc = .string) : P.underlying t = some .string := by
  obtain ⟨d, hu, hd⟩ := und_of hT (t := t) (by rw [hb]; simp)
  rw [hu, tdOf_string (hd.trans hb)]
theorem freeze_alloc (w : World) (c : Array Value) (e : TypeId) : (w.alloc (.cells c e)).freeze ⟨w.heap.size, c.size, none⟩ 1 = w.alloc (.cells c e (c.size, c.size + 1)) := by
  unfold World.freeze World.alloc
  simp only [Nat.one_ne_zero, if_false]
  congr 1
  apply Array.ext_getElem?
  intro k
  rw [Array.getElem?_modify, Array.getElem?_push, Array.getElem?_push]
  by_cases ek : w.heap.size = k
  · subst ek; simp
  · rw [if_neg ek, if_neg (Ne.symm ek), if_neg (Ne.symm ek)]
theorem run_stringToBytes (e : TypeId) (s : List UInt8) (hs : s.length ≤ 9223372036854775807) : ∃ cap, s.length ≤ cap ∧ (Conv.stringToBytes e ⟨s.toArray⟩).run P w =
    .ok (.slice (some ⟨w.heap.size, 0, none⟩) s.length cap) (w.drew.alloc (.cells (byteVs s ++ List.replicate (cap - s.length) (Value.int .u8 0)).toArray e (cap, cap + 1))) := by
  refine ⟨Question.cut (.appendCap s.length 0 e) (w.tape w.drawn (.appendCap s.length 0 e)), by simp [Question.cut], ?_⟩
  generalize hq : Question.cut (.appendCap s.length 0 e) (w.tape w.drawn (.appendCap s.length 0 e)) = cap
  have hcap : s.length ≤ cap := by rw [← hq]; simp [Question.cut]
  have hsz : (⟨s.toArray⟩ : ByteArray).size = s.length := by simp [ByteArray.size]
  have hm : (Array.map (fun b : UInt8 => Value.int IntKind.u8 ↑b.toNat) s.toArray ++ Array.replicate (cap - s.length) (Value.int IntKind.u8 0)) = (byteVs s ++ List.replicate (cap - s.length) (Value.int .u8 0)).toArray := by
    simp [byteVs]
  have hl : ((byteVs s ++ List.replicate (cap - s.length) (Value.int .u8 0)).toArray).size = cap := by simp [byteVs]; omega
  unfold Conv.stringToBytes
  simp only [hsz, Sem.run_bind, run_choose, Question.forced, Bool.false_eq_true, if_false, hq, Result.andThen_ok, newRow, run_newObj, Sem.run_pure, World.drew_eq, World.alloc_eq, hm, World.size_drew]
  have hsh : ∀ c : Array Value, (w.drew.alloc (.cells c e)).shape? w.heap.size = some (e, c.size) := by
    intro c
    have := World.alloc_heap_new w.drew (.cells c e)
    simp only [World.size_drew] at this
    unfold World.shape?
    rw [this]
  simp only [markStringish, Sem.run_bind, run_shape, hsh, Result.andThen_ok, run_freeze, Sem.run_pure]
  have := freeze_alloc w.drew ((byteVs s ++ List.replicate (cap - s.length) (Value.int .u8 0)).toArray) e
  rw [hl] at this
  simp only [World.size_drew] at this
  rw [hl, this]
theorem convA_run {src dst : TypeId} {x : AV} {u : Value} {z : AV} (hT : TOk P T) (H : WR w0 ρ h w) (hr : convA T h src dst x = some (z, h')) (hx : VR w0 ρ x u) :
    ∃ ρ' r w', (convert src dst u).run P w = .ok r w' ∧ Ext ρ ρ' ∧ WR w0 ρ' h' w' ∧ VR w0 ρ' z r := by
  unfold convA at hr
  split at hr
  · simp at hr
  · rename_i k k0 n hdd hns
    simp at hr; obtain ⟨rfl, rfl⟩ := hr
    obtain ⟨d, hu, hd⟩ := und_of hT (t := src) hns
    cases hx
    exact ⟨ρ, _, w, by simp [convert, run_und hu, run_und (und_int hT hdd), Conv.intToInt], Ext.refl _, H, .int _ _⟩
  · rename_i s hdd hns
    simp at hr; obtain ⟨rfl, rfl⟩ := hr
    obtain ⟨d, hu, hd⟩ := und_of hT (t := src) hns
    cases hx
    exact ⟨ρ, _, w, by simp [convert, run_und hu, run_und (und_string hT hdd)], Ext.refl _, H, .str _⟩
  · split at hr
    · rename_i hde
      have us := und_slice hT (by assumption : (T src).desc = .slice _)
      have ud := und_string hT (by assumption : (T dst).desc = .string)
      have ue := und_int hT hde
      have key : ∀ (a : Option Addr) (l c : Nat) (x : AV), VR w0 ρ x (.slice a l c) → (match elems h 1 l x with | some cs => Option.map (fun s => (AV.str s, h)) (bytesOf cs) | none => none) = some (z, h') →
          ∃ ρ' r w', (convert src dst (.slice a l c)).run P w = .ok r w' ∧ Ext ρ ρ' ∧ WR w0 ρ' h' w' ∧ VR w0 ρ' z r := by
        intro a l c x hx hr
        split at hr
        · rename_i cs hel
          obtain ⟨s, hs, hz⟩ := Option.map_eq_some_iff.1 hr
          simp at hz
          obtain ⟨rfl, rfl⟩ := hz
          obtain ⟨vs, hrun, hv, _⟩ := elems_run (P := P) H hel hx
          obtain ⟨ns, rfl, rfl⟩ := bytesOf_VRs hs hv
          refine ⟨ρ, _, w, ?_, Ext.refl _, H, .str _⟩
          rw [run_convert_bytes_string (P := P) w src dst _ a l c us ue ud]
          cases a with
          | none =>
            simp [Builtin.firstCells] at hrun
            subst hrun
            simp [Conv.bytesToString]
            rfl
          | some a =>
            simp only [Builtin.firstCells, Nat.mul_one] at hrun
            rw [run_bytesToString (P := P) w a l c ns hrun]
            have := foldl_push ns []
            simp only [List.nil_append] at this
            rw [show ByteArray.empty = (⟨([] : List UInt8).toArray⟩ : ByteArray) from rfl, this]
        · simp at hr
      have hx0 := hx
      cases hx <;> simp only [lenA] at hr <;> first | (simp at hr; done) | exact key _ _ _ _ hx0 hr
    · simp at hr
  · split at hr
    · rename_i hde hcs
      split at hr
      · rename_i hc
        simp only [Option.some.injEq, Prod.mk.injEq] at hr
        obtain ⟨rfl, rfl⟩ := hr
        obtain ⟨rfl, hpos⟩ := hc
        have us := und_slice hT (by assumption : (T src).desc = .slice _)
        have ud := und_slice hT (by assumption : (T src).desc = .slice _)
        have ue := und_int hT hde
        obtain ⟨p, c, tt, fz, hp, hB, hb, hR, hs, hf, hv, h1⟩ := H.cellsAt hcs
        have hx0 := hx
        cases hx with
        | sliceE => omega
        | slice i o len cap sz ex p' cap' hp' h1' h2' h3' h4' =>
          obtain rfl : p' = p := Option.some.inj (hp'.symm.trans hp)
          have hsh : w.shape? p'.r = some (tt, c.size) := by unfold World.shape?; rw [hb]
          have hfz : ∃ fz', noFreeze fz' p'.R ∧ w.freeze ⟨p'.r, c.size, none⟩ 1 = w.putObj p'.r (.cells c tt fz') := by
            obtain ⟨lo, hi⟩ := fz
            refine ⟨if lo == hi then (c.size, c.size + 1) else (min lo c.size, max hi (c.size + 1)), ?_, ?_⟩
            · obtain ⟨f1, f2⟩ := hf
              simp only at f1 f2
              by_cases e : lo = hi
              · subst e
                simp only [beq_self_eq_true, if_true]
                exact ⟨by simp, fun off ho => by simp only; omega⟩
              · have : (lo == hi) = false := by simpa using e
                rw [this]
                have hlo : p'.R ≤ lo := by
                  rcases Nat.lt_or_ge lo p'.R with h | h
                  · exact absurd ⟨Nat.le_refl _, by omega⟩ (f2 lo h)
                  · exact h
                simp only [Bool.false_eq_true, if_false]
                exact ⟨by simp only; omega, fun off ho => by simp only; omega⟩
            · unfold World.freeze World.putObj
              simp only [Nat.one_ne_zero, if_false]
              congr 1
              apply Array.ext_getElem?
              intro k
              rw [Array.getElem?_modify]
              by_cases ek : p'.r = k
              · subst ek
                rw [if_pos rfl, hb, Array.getElem?_setIfInBounds_self, if_pos (Array.getElem?_eq_some_iff.1 hb).1]
                rfl
              · rw [if_neg ek, Array.getElem?_setIfInBounds_ne ek]
          obtain ⟨fz', hf', hfr⟩ := hfz
          refine ⟨ρ, _, w.putObj p'.r (.cells c tt fz'), ?_, Ext.refl _, H.refreeze hcs hp hB hb hR hs hv h1 hf', hx0⟩
          simp only [convert, Sem.run_bind, run_und us, run_und ue, Result.andThen_ok, beq_self_eq_true, markStringish, run_shape, hsh, run_freeze, Sem.run_pure, hfr]
      · simp at hr
    · simp at hr
  · split at hr
    · rename_i hde
      split at hr
      · rename_i hlen
        simp at hr; obtain ⟨rfl, rfl⟩ := hr
        obtain ⟨d, hu, hd⟩ := und_of hT (t := src) (by assumption)
        have ud := und_slice hT (by assumption : (T dst).desc = .slice _)
        have ue := und_int hT hde
        cases hx
        rename_i e s _ _ _
        obtain ⟨cap, hcap, hrun⟩ := run_stringToBytes (P := P) (w := w) e s hlen
        have hm : ∀ m : Nat, (byteVs s).length + (List.replicate (cap - s.length) (Value.int .u8 0)).length = cap := by intro _; simp [byteVs]; omega
        obtain ⟨ρ', he, hp, H'⟩ := H.drew.pushCells (ofBytes_VRs s) (ofBytes_one s) (List.replicate (cap - s.length) (Value.int .u8 0)) e (cap, cap + 1) (by rw [hm 0]; exact ⟨by simp, fun off ho => by simp; omega⟩)
        refine ⟨ρ', .slice (some ⟨w.heap.size, 0, none⟩) s.length cap, _, ?_, he, H', ?_⟩
        · have : (convert src dst (.string ⟨s.toArray⟩)).run P w = (Conv.stringToBytes e ⟨s.toArray⟩).run P w := by
            simp only [convert, Sem.run_bind, run_und hu, run_und ud, run_und ue, Result.andThen_ok]
          rw [this, hrun]
        · refine VR.slice h.size 0 s.length s.length 1 false _ cap hp (Nat.le_refl _) hcap (by simp) ?_
          rw [hm 0]
          simp
      · simp at hr
    · simp at hr
  · simp at hr
end ops
end Go.Abs
