/-
  No cell of these rows narrows 'for every input' (looked for: loops, veiled, ifaces, maps, wideKeys, modest, calm, conditions, laid).
  DERIVED. THE GIVEN ROWS OF THIS SEAT. 5 by the template 'for every input the law returns true; each argument reads behind the call as it read before'; 0 by the template 'total and deterministic' (their statements: YtedhjjjheafjeaaTotals.lean).
  GIVEN WITH THE SEED: the statements are not yours to turn. If you find one false, say at which input.
  Laid BY PROGRAM, IN A SANDBOX (cutbox-rows.mjs): the forced cells as the released guide's own fill.sh prints them over the translation 048fab974aa281e3… (all of the seat's roots in one cut). By AI agents, Wed Nov 11 2026. No macro, syntax, notation, axiom, sorry.
-/
import Derived.Test.YtedhjjjheafjeaaChecked
import GoSem.Claim
import GoSem.ClaimJoined
import GoSem.ClaimMapViews
import Derived.JoinedTies
import Derived.KernelRfl
namespace Go.Proofs.Ytedhjjjheafjeaa
/- THE CELL 'sum', in the pinned program and in every row, IS THE sha256 OF THE DUMP (.gsa) THAT YtedhjjjheafjeaaProg.lean LOADS. Nothing in Lean hashes anything: it is a label: what it is worth is what the hold of that sum in a sandbox is worth. -/
noncomputable def Try.pinned : Pinned := { name := "ytedhjjjheafjeaa", sum := "048fab974aa281e3a5174c752818bcc4e20ebcd8fd8cbff005b7fa0b67aa8c19", checked := Try.checked }
namespace Rows
def none {H : Type} : Left H := { results := [], args := [] }

/-- 'isthmuslaw11.ShelfAll': WHATEVER THE INPUT: true; the input reads as it did. -/
def shelfAllSpec : ChangeSpec := { name := "shelfAll", fn := fun _ => fun
  | [d1, d2] => { results := [.lit (.bool true)], args := [d1, d2] }
  | _ => none }
def shelfAllRow : OpenClaim := { program := "ytedhjjjheafjeaa", sum := "048fab974aa281e3a5174c752818bcc4e20ebcd8fd8cbff005b7fa0b67aa8c19", func := "isthmus/isthmuslaw11.ShelfAll", spec := "shelfAll", unfollowed := true, recurses := true, apart := false }
def ShelfAllSaid : Prop := shelfAllRow.holds Try.pinned (OpenSpec.ofChange shelfAllSpec)

/-- ITS FALSE NEIGHBOUR: 'it returns false'. Refute it at one input. -/
def shelfAllWrong : ChangeSpec := { name := "shelfAll", fn := fun _ => fun
  | [d1, d2] => { results := [.lit (.bool false)], args := [d1, d2] }
  | _ => none }
def ShelfAllWrongFalsely : Prop := shelfAllRow.holds Try.pinned (OpenSpec.ofChange shelfAllWrong)

/-- 'isthmuslaw11.ShelfUnder': WHATEVER THE INPUT: true; the input reads as it did. -/
def shelfUnderSpec : ChangeSpec := { name := "shelfUnder", fn := fun _ => fun
  | [d1, d2, d3] => { results := [.lit (.bool true)], args := [d1, d2, d3] }
  | _ => none }
def shelfUnderRow : OpenClaim := { program := "ytedhjjjheafjeaa", sum := "048fab974aa281e3a5174c752818bcc4e20ebcd8fd8cbff005b7fa0b67aa8c19", func := "isthmus/isthmuslaw11.ShelfUnder", spec := "shelfUnder", unfollowed := true, recurses := true, apart := false }
def ShelfUnderSaid : Prop := shelfUnderRow.holds Try.pinned (OpenSpec.ofChange shelfUnderSpec)

/-- ITS FALSE NEIGHBOUR: 'it returns false'. Refute it at one input. -/
def shelfUnderWrong : ChangeSpec := { name := "shelfUnder", fn := fun _ => fun
  | [d1, d2, d3] => { results := [.lit (.bool false)], args := [d1, d2, d3] }
  | _ => none }
def ShelfUnderWrongFalsely : Prop := shelfUnderRow.holds Try.pinned (OpenSpec.ofChange shelfUnderWrong)

/-- 'isthmuslaw11.ShelfTexts': WHATEVER THE INPUT: true; the input reads as it did. -/
def shelfTextsSpec : ChangeSpec := { name := "shelfTexts", fn := fun _ => fun
  | [d1, d2] => { results := [.lit (.bool true)], args := [d1, d2] }
  | _ => none }
def shelfTextsRow : OpenClaim := { program := "ytedhjjjheafjeaa", sum := "048fab974aa281e3a5174c752818bcc4e20ebcd8fd8cbff005b7fa0b67aa8c19", func := "isthmus/isthmuslaw11.ShelfTexts", spec := "shelfTexts", unfollowed := true, recurses := true, apart := false }
def ShelfTextsSaid : Prop := shelfTextsRow.holds Try.pinned (OpenSpec.ofChange shelfTextsSpec)

/-- ITS FALSE NEIGHBOUR: 'it returns false'. Refute it at one input. -/
def shelfTextsWrong : ChangeSpec := { name := "shelfTexts", fn := fun _ => fun
  | [d1, d2] => { results := [.lit (.bool false)], args := [d1, d2] }
  | _ => none }
def ShelfTextsWrongFalsely : Prop := shelfTextsRow.holds Try.pinned (OpenSpec.ofChange shelfTextsWrong)

/-- 'isthmuslaw11.ShelfNone': WHATEVER THE INPUT: true; the input reads as it did. -/
def shelfNoneSpec : ChangeSpec := { name := "shelfNone", fn := fun _ => fun
  | [] => { results := [.lit (.bool true)], args := [] }
  | _ => none }
def shelfNoneRow : OpenClaim := { program := "ytedhjjjheafjeaa", sum := "048fab974aa281e3a5174c752818bcc4e20ebcd8fd8cbff005b7fa0b67aa8c19", func := "isthmus/isthmuslaw11.ShelfNone", spec := "shelfNone", unfollowed := true, recurses := true, apart := false }
def ShelfNoneSaid : Prop := shelfNoneRow.holds Try.pinned (OpenSpec.ofChange shelfNoneSpec)

/-- ITS FALSE NEIGHBOUR: 'it returns false'. Refute it at one input. -/
def shelfNoneWrong : ChangeSpec := { name := "shelfNone", fn := fun _ => fun
  | [] => { results := [.lit (.bool false)], args := [] }
  | _ => none }
def ShelfNoneWrongFalsely : Prop := shelfNoneRow.holds Try.pinned (OpenSpec.ofChange shelfNoneWrong)

/-- 'isthmuslaw11.ShelfTombs': WHATEVER THE INPUT: true; the input reads as it did. -/
def shelfTombsSpec : ChangeSpec := { name := "shelfTombs", fn := fun _ => fun
  | [d1, d2] => { results := [.lit (.bool true)], args := [d1, d2] }
  | _ => none }
def shelfTombsRow : OpenClaim := { program := "ytedhjjjheafjeaa", sum := "048fab974aa281e3a5174c752818bcc4e20ebcd8fd8cbff005b7fa0b67aa8c19", func := "isthmus/isthmuslaw11.ShelfTombs", spec := "shelfTombs", unfollowed := true, recurses := true, apart := false }
def ShelfTombsSaid : Prop := shelfTombsRow.holds Try.pinned (OpenSpec.ofChange shelfTombsSpec)

/-- ITS FALSE NEIGHBOUR: 'it returns false'. Refute it at one input. -/
def shelfTombsWrong : ChangeSpec := { name := "shelfTombs", fn := fun _ => fun
  | [d1, d2] => { results := [.lit (.bool false)], args := [d1, d2] }
  | _ => none }
def ShelfTombsWrongFalsely : Prop := shelfTombsRow.holds Try.pinned (OpenSpec.ofChange shelfTombsWrong)

/- THE SECOND FORM. 'bulk': how many values and letters a reading holds, each counted each time it is reached (what is shared counts as often as it is met; a slice's spare places count too). A statement '..UptoSaid' is the law's where the arguments, and the package variables that the reading takes, are together of bulk at most 1048576: NARROWER than '..Said'. Prove '..Said' where nothing that the law and all that it calls make is longer than what came in: it says more and counts as full. Else prove '..UptoSaid'. A law counts once. -/
mutual
def uptoBulk {H : Type} : DataW H → Nat
  | .lit (.string bytes) => bytes.length + 1
  | .lit _ => 1
  | .nil => 1
  | .ptr d => uptoBulk d + 1
  | .slice elems spare => uptoBulkAll elems + uptoBulkAll spare + 1
  | .agg parts => uptoBulkAll parts + 1
  | .iface _ d => uptoBulk d + 1
  | .map entries => uptoBulkEntries entries + 1
  | .held _ => 1
def uptoBulkAll {H : Type} : List (DataW H) → Nat
  | [] => 0
  | d :: r => uptoBulk d + uptoBulkAll r
def uptoBulkEntries {H : Type} : List (Lit × DataW H) → Nat
  | [] => 0
  | x :: r => uptoBulkEntry x + uptoBulkEntries r
def uptoBulkEntry {H : Type} : Lit × DataW H → Nat
  | (.string bytes, d) => bytes.length + uptoBulk d + 1
  | (_, d) => uptoBulk d + 1
 end
def uptoSmall : (H : Type) → List (DataW H) → Bool := fun _ ds => decide (uptoBulkAll ds ≤ 1048576)
def OpenSpec.upto (s : _root_.Go.ChangeSpec) : _root_.Go.OpenSpec := { _root_.Go.OpenSpec.ofChange s with cond := some uptoSmall }

/-- 'isthmuslaw11.ShelfAll', WHERE WHAT IT READS IS OF BULK AT MOST 1048576: true; the input reads as it did. -/
def shelfAllUptoRow : OpenClaim := { program := "ytedhjjjheafjeaa", sum := "048fab974aa281e3a5174c752818bcc4e20ebcd8fd8cbff005b7fa0b67aa8c19", func := "isthmus/isthmuslaw11.ShelfAll", spec := "shelfAll", unfollowed := true, recurses := true, apart := false, narrowed := true }
def ShelfAllUptoSaid : Prop := shelfAllUptoRow.holds Try.pinned (OpenSpec.upto shelfAllSpec)

/-- 'isthmuslaw11.ShelfUnder', WHERE WHAT IT READS IS OF BULK AT MOST 1048576: true; the input reads as it did. -/
def shelfUnderUptoRow : OpenClaim := { program := "ytedhjjjheafjeaa", sum := "048fab974aa281e3a5174c752818bcc4e20ebcd8fd8cbff005b7fa0b67aa8c19", func := "isthmus/isthmuslaw11.ShelfUnder", spec := "shelfUnder", unfollowed := true, recurses := true, apart := false, narrowed := true }
def ShelfUnderUptoSaid : Prop := shelfUnderUptoRow.holds Try.pinned (OpenSpec.upto shelfUnderSpec)

/-- 'isthmuslaw11.ShelfTexts', WHERE WHAT IT READS IS OF BULK AT MOST 1048576: true; the input reads as it did. -/
def shelfTextsUptoRow : OpenClaim := { program := "ytedhjjjheafjeaa", sum := "048fab974aa281e3a5174c752818bcc4e20ebcd8fd8cbff005b7fa0b67aa8c19", func := "isthmus/isthmuslaw11.ShelfTexts", spec := "shelfTexts", unfollowed := true, recurses := true, apart := false, narrowed := true }
def ShelfTextsUptoSaid : Prop := shelfTextsUptoRow.holds Try.pinned (OpenSpec.upto shelfTextsSpec)

/-- 'isthmuslaw11.ShelfNone', WHERE WHAT IT READS IS OF BULK AT MOST 1048576: true; the input reads as it did. -/
def shelfNoneUptoRow : OpenClaim := { program := "ytedhjjjheafjeaa", sum := "048fab974aa281e3a5174c752818bcc4e20ebcd8fd8cbff005b7fa0b67aa8c19", func := "isthmus/isthmuslaw11.ShelfNone", spec := "shelfNone", unfollowed := true, recurses := true, apart := false, narrowed := true }
def ShelfNoneUptoSaid : Prop := shelfNoneUptoRow.holds Try.pinned (OpenSpec.upto shelfNoneSpec)

/-- 'isthmuslaw11.ShelfTombs', WHERE WHAT IT READS IS OF BULK AT MOST 1048576: true; the input reads as it did. -/
def shelfTombsUptoRow : OpenClaim := { program := "ytedhjjjheafjeaa", sum := "048fab974aa281e3a5174c752818bcc4e20ebcd8fd8cbff005b7fa0b67aa8c19", func := "isthmus/isthmuslaw11.ShelfTombs", spec := "shelfTombs", unfollowed := true, recurses := true, apart := false, narrowed := true }
def ShelfTombsUptoSaid : Prop := shelfTombsUptoRow.holds Try.pinned (OpenSpec.upto shelfTombsSpec)

end Rows
end Go.Proofs.Ytedhjjjheafjeaa
