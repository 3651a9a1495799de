/-
  No cell of these rows narrows 'for every input' (looked for: loops, veiled, ifaces, maps, wideKeys, modest, calm, conditions, laid).
  DERIVED. THE GIVEN ROWS OF THIS SEAT. 6 by the template 'for every input the law returns true; each argument reads behind the call as it read before'; 0 by the template 'total and deterministic' (their statements: YtanbckdhlmhdeaaTotals.lean).
  GIVEN WITH THE SEED: the statements are not yours to turn. If you find one false, say at which input.
  Laid BY PROGRAM, IN A SANDBOX (cutbox-rows.mjs): the forced cells as the released guide's own fill.sh prints them over the translation 38ddac32e3eca807… (all of the seat's roots in one cut). By AI agents, Wed Nov 11 2026. No macro, syntax, notation, axiom, sorry.
-/
import Derived.Test.YtanbckdhlmhdeaaChecked
import GoSem.Claim
import GoSem.ClaimJoined
import GoSem.ClaimMapViews
import Derived.JoinedTies
import Derived.KernelRfl
namespace Go.Proofs.Ytanbckdhlmhdeaa
/- THE CELL 'sum', in the pinned program and in every row, IS THE sha256 OF THE DUMP (.gsa) THAT YtanbckdhlmhdeaaProg.lean LOADS. Nothing in Lean hashes anything: it is a label: what it is worth is what the hold of that sum in a sandbox is worth. -/
noncomputable def Try.pinned : Pinned := { name := "ytanbckdhlmhdeaa", sum := "38ddac32e3eca8074de56180e70c852d13b285b2ac42ef4ab6a806d69ad889fd", checked := Try.checked }
namespace Rows
def none {H : Type} : Left H := { results := [], args := [] }

/-- 'isthmuslaw22.LedgerAll': WHATEVER THE INPUT: true; the input reads as it did. -/
def ledgerAllSpec : ChangeSpec := { name := "ledgerAll", fn := fun _ => fun
  | [d1, d2] => { results := [.lit (.bool true)], args := [d1, d2] }
  | _ => none }
def ledgerAllRow : OpenClaim := { program := "ytanbckdhlmhdeaa", sum := "38ddac32e3eca8074de56180e70c852d13b285b2ac42ef4ab6a806d69ad889fd", func := "isthmus/isthmuslaw22.LedgerAll", spec := "ledgerAll", unfollowed := true, recurses := true, apart := false }
def LedgerAllSaid : Prop := ledgerAllRow.holds Try.pinned (OpenSpec.ofChange ledgerAllSpec)

/-- ITS FALSE NEIGHBOUR: 'it returns false'. Refute it at one input. -/
def ledgerAllWrong : ChangeSpec := { name := "ledgerAll", fn := fun _ => fun
  | [d1, d2] => { results := [.lit (.bool false)], args := [d1, d2] }
  | _ => none }
def LedgerAllWrongFalsely : Prop := ledgerAllRow.holds Try.pinned (OpenSpec.ofChange ledgerAllWrong)

/-- 'isthmuslaw22.LedgerCheck': WHATEVER THE INPUT: true; the input reads as it did. -/
def ledgerCheckSpec : ChangeSpec := { name := "ledgerCheck", fn := fun _ => fun
  | [d] => { results := [.lit (.bool true)], args := [d] }
  | _ => none }
def ledgerCheckRow : OpenClaim := { program := "ytanbckdhlmhdeaa", sum := "38ddac32e3eca8074de56180e70c852d13b285b2ac42ef4ab6a806d69ad889fd", func := "isthmus/isthmuslaw22.LedgerCheck", spec := "ledgerCheck", unfollowed := true, recurses := true, apart := false }
def LedgerCheckSaid : Prop := ledgerCheckRow.holds Try.pinned (OpenSpec.ofChange ledgerCheckSpec)

/-- ITS FALSE NEIGHBOUR: 'it returns false'. Refute it at one input. -/
def ledgerCheckWrong : ChangeSpec := { name := "ledgerCheck", fn := fun _ => fun
  | [d] => { results := [.lit (.bool false)], args := [d] }
  | _ => none }
def LedgerCheckWrongFalsely : Prop := ledgerCheckRow.holds Try.pinned (OpenSpec.ofChange ledgerCheckWrong)

/-- 'isthmuslaw22.LedgerKeeps': WHATEVER THE INPUT: true; the input reads as it did. -/
def ledgerKeepsSpec : ChangeSpec := { name := "ledgerKeeps", fn := fun _ => fun
  | [d] => { results := [.lit (.bool true)], args := [d] }
  | _ => none }
def ledgerKeepsRow : OpenClaim := { program := "ytanbckdhlmhdeaa", sum := "38ddac32e3eca8074de56180e70c852d13b285b2ac42ef4ab6a806d69ad889fd", func := "isthmus/isthmuslaw22.LedgerKeeps", spec := "ledgerKeeps", unfollowed := true, recurses := true, apart := false }
def LedgerKeepsSaid : Prop := ledgerKeepsRow.holds Try.pinned (OpenSpec.ofChange ledgerKeepsSpec)

/-- ITS FALSE NEIGHBOUR: 'it returns false'. Refute it at one input. -/
def ledgerKeepsWrong : ChangeSpec := { name := "ledgerKeeps", fn := fun _ => fun
  | [d] => { results := [.lit (.bool false)], args := [d] }
  | _ => none }
def LedgerKeepsWrongFalsely : Prop := ledgerKeepsRow.holds Try.pinned (OpenSpec.ofChange ledgerKeepsWrong)

/-- 'isthmuslaw22.LedgerNone': WHATEVER THE INPUT: true; the input reads as it did. -/
def ledgerNoneSpec : ChangeSpec := { name := "ledgerNone", fn := fun _ => fun
  | [] => { results := [.lit (.bool true)], args := [] }
  | _ => none }
def ledgerNoneRow : OpenClaim := { program := "ytanbckdhlmhdeaa", sum := "38ddac32e3eca8074de56180e70c852d13b285b2ac42ef4ab6a806d69ad889fd", func := "isthmus/isthmuslaw22.LedgerNone", spec := "ledgerNone", unfollowed := true, recurses := true, apart := false }
def LedgerNoneSaid : Prop := ledgerNoneRow.holds Try.pinned (OpenSpec.ofChange ledgerNoneSpec)

/-- ITS FALSE NEIGHBOUR: 'it returns false'. Refute it at one input. -/
def ledgerNoneWrong : ChangeSpec := { name := "ledgerNone", fn := fun _ => fun
  | [] => { results := [.lit (.bool false)], args := [] }
  | _ => none }
def LedgerNoneWrongFalsely : Prop := ledgerNoneRow.holds Try.pinned (OpenSpec.ofChange ledgerNoneWrong)

/-- 'isthmuslaw22.LedgerFront': WHATEVER THE INPUT: true; the input reads as it did. -/
def ledgerFrontSpec : ChangeSpec := { name := "ledgerFront", fn := fun _ => fun
  | [d1, d2] => { results := [.lit (.bool true)], args := [d1, d2] }
  | _ => none }
def ledgerFrontRow : OpenClaim := { program := "ytanbckdhlmhdeaa", sum := "38ddac32e3eca8074de56180e70c852d13b285b2ac42ef4ab6a806d69ad889fd", func := "isthmus/isthmuslaw22.LedgerFront", spec := "ledgerFront", unfollowed := true, recurses := true, apart := false }
def LedgerFrontSaid : Prop := ledgerFrontRow.holds Try.pinned (OpenSpec.ofChange ledgerFrontSpec)

/-- ITS FALSE NEIGHBOUR: 'it returns false'. Refute it at one input. -/
def ledgerFrontWrong : ChangeSpec := { name := "ledgerFront", fn := fun _ => fun
  | [d1, d2] => { results := [.lit (.bool false)], args := [d1, d2] }
  | _ => none }
def LedgerFrontWrongFalsely : Prop := ledgerFrontRow.holds Try.pinned (OpenSpec.ofChange ledgerFrontWrong)

/-- 'isthmuslaw22.LedgerClosed': WHATEVER THE INPUT: true; the input reads as it did. -/
def ledgerClosedSpec : ChangeSpec := { name := "ledgerClosed", fn := fun _ => fun
  | [d1, d2] => { results := [.lit (.bool true)], args := [d1, d2] }
  | _ => none }
def ledgerClosedRow : OpenClaim := { program := "ytanbckdhlmhdeaa", sum := "38ddac32e3eca8074de56180e70c852d13b285b2ac42ef4ab6a806d69ad889fd", func := "isthmus/isthmuslaw22.LedgerClosed", spec := "ledgerClosed", unfollowed := true, recurses := true, apart := false }
def LedgerClosedSaid : Prop := ledgerClosedRow.holds Try.pinned (OpenSpec.ofChange ledgerClosedSpec)

/-- ITS FALSE NEIGHBOUR: 'it returns false'. Refute it at one input. -/
def ledgerClosedWrong : ChangeSpec := { name := "ledgerClosed", fn := fun _ => fun
  | [d1, d2] => { results := [.lit (.bool false)], args := [d1, d2] }
  | _ => none }
def LedgerClosedWrongFalsely : Prop := ledgerClosedRow.holds Try.pinned (OpenSpec.ofChange ledgerClosedWrong)

/- THE SECOND FORM. 'bulk': how many values and letters a reading holds, each counted each time it is reached (what is shared counts as often as it is met; a slice's spare places count too). A statement '..UptoSaid' is the law's where the arguments, and the package variables that the reading takes, are together of bulk at most 1048576: NARROWER than '..Said'. Prove '..Said' where nothing that the law and all that it calls make is longer than what came in: it says more and counts as full. Else prove '..UptoSaid'. A law counts once. -/
mutual
def uptoBulk {H : Type} : DataW H → Nat
  | .lit (.string bytes) => bytes.length + 1
  | .lit _ => 1
  | .nil => 1
  | .ptr d => uptoBulk d + 1
  | .slice elems spare => uptoBulkAll elems + uptoBulkAll spare + 1
  | .agg parts => uptoBulkAll parts + 1
  | .iface _ d => uptoBulk d + 1
  | .map entries => uptoBulkEntries entries + 1
  | .held _ => 1
def uptoBulkAll {H : Type} : List (DataW H) → Nat
  | [] => 0
  | d :: r => uptoBulk d + uptoBulkAll r
def uptoBulkEntries {H : Type} : List (Lit × DataW H) → Nat
  | [] => 0
  | x :: r => uptoBulkEntry x + uptoBulkEntries r
def uptoBulkEntry {H : Type} : Lit × DataW H → Nat
  | (.string bytes, d) => bytes.length + uptoBulk d + 1
  | (_, d) => uptoBulk d + 1
 end
def uptoSmall : (H : Type) → List (DataW H) → Bool := fun _ ds => decide (uptoBulkAll ds ≤ 1048576)
def OpenSpec.upto (s : _root_.Go.ChangeSpec) : _root_.Go.OpenSpec := { _root_.Go.OpenSpec.ofChange s with cond := some uptoSmall }

/-- 'isthmuslaw22.LedgerAll', WHERE WHAT IT READS IS OF BULK AT MOST 1048576: true; the input reads as it did. -/
def ledgerAllUptoRow : OpenClaim := { program := "ytanbckdhlmhdeaa", sum := "38ddac32e3eca8074de56180e70c852d13b285b2ac42ef4ab6a806d69ad889fd", func := "isthmus/isthmuslaw22.LedgerAll", spec := "ledgerAll", unfollowed := true, recurses := true, apart := false, narrowed := true }
def LedgerAllUptoSaid : Prop := ledgerAllUptoRow.holds Try.pinned (OpenSpec.upto ledgerAllSpec)

/-- 'isthmuslaw22.LedgerCheck', WHERE WHAT IT READS IS OF BULK AT MOST 1048576: true; the input reads as it did. -/
def ledgerCheckUptoRow : OpenClaim := { program := "ytanbckdhlmhdeaa", sum := "38ddac32e3eca8074de56180e70c852d13b285b2ac42ef4ab6a806d69ad889fd", func := "isthmus/isthmuslaw22.LedgerCheck", spec := "ledgerCheck", unfollowed := true, recurses := true, apart := false, narrowed := true }
def LedgerCheckUptoSaid : Prop := ledgerCheckUptoRow.holds Try.pinned (OpenSpec.upto ledgerCheckSpec)

/-- 'isthmuslaw22.LedgerKeeps', WHERE WHAT IT READS IS OF BULK AT MOST 1048576: true; the input reads as it did. -/
def ledgerKeepsUptoRow : OpenClaim := { program := "ytanbckdhlmhdeaa", sum := "38ddac32e3eca8074de56180e70c852d13b285b2ac42ef4ab6a806d69ad889fd", func := "isthmus/isthmuslaw22.LedgerKeeps", spec := "ledgerKeeps", unfollowed := true, recurses := true, apart := false, narrowed := true }
def LedgerKeepsUptoSaid : Prop := ledgerKeepsUptoRow.holds Try.pinned (OpenSpec.upto ledgerKeepsSpec)

/-- 'isthmuslaw22.LedgerNone', WHERE WHAT IT READS IS OF BULK AT MOST 1048576: true; the input reads as it did. -/
def ledgerNoneUptoRow : OpenClaim := { program := "ytanbckdhlmhdeaa", sum := "38ddac32e3eca8074de56180e70c852d13b285b2ac42ef4ab6a806d69ad889fd", func := "isthmus/isthmuslaw22.LedgerNone", spec := "ledgerNone", unfollowed := true, recurses := true, apart := false, narrowed := true }
def LedgerNoneUptoSaid : Prop := ledgerNoneUptoRow.holds Try.pinned (OpenSpec.upto ledgerNoneSpec)

/-- 'isthmuslaw22.LedgerFront', WHERE WHAT IT READS IS OF BULK AT MOST 1048576: true; the input reads as it did. -/
def ledgerFrontUptoRow : OpenClaim := { program := "ytanbckdhlmhdeaa", sum := "38ddac32e3eca8074de56180e70c852d13b285b2ac42ef4ab6a806d69ad889fd", func := "isthmus/isthmuslaw22.LedgerFront", spec := "ledgerFront", unfollowed := true, recurses := true, apart := false, narrowed := true }
def LedgerFrontUptoSaid : Prop := ledgerFrontUptoRow.holds Try.pinned (OpenSpec.upto ledgerFrontSpec)

/-- 'isthmuslaw22.LedgerClosed', WHERE WHAT IT READS IS OF BULK AT MOST 1048576: true; the input reads as it did. -/
def ledgerClosedUptoRow : OpenClaim := { program := "ytanbckdhlmhdeaa", sum := "38ddac32e3eca8074de56180e70c852d13b285b2ac42ef4ab6a806d69ad889fd", func := "isthmus/isthmuslaw22.LedgerClosed", spec := "ledgerClosed", unfollowed := true, recurses := true, apart := false, narrowed := true }
def LedgerClosedUptoSaid : Prop := ledgerClosedUptoRow.holds Try.pinned (OpenSpec.upto ledgerClosedSpec)

end Rows
end Go.Proofs.Ytanbckdhlmhdeaa
