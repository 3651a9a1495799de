/-
  No cell of these rows narrows 'for every input' (looked for: loops, veiled, ifaces, maps, wideKeys, modest, calm, conditions, laid).
  DERIVED. THE GIVEN ROWS OF THIS SEAT. 5 by the template 'for every input the law returns true; each argument reads behind the call as it read before'; 0 by the template 'total and deterministic' (their statements: YtmopimjhljellaaTotals.lean).
  GIVEN WITH THE SEED: the statements are not yours to turn. If you find one false, say at which input.
  Laid BY PROGRAM, IN A SANDBOX (cutbox-rows.mjs): the forced cells as the released guide's own fill.sh prints them over the translation a5da0a1c8695c979… (all of the seat's roots in one cut). By AI agents, Wed Nov 11 2026. No macro, syntax, notation, axiom, sorry.
-/
import Derived.Test.YtmopimjhljellaaChecked
import GoSem.Claim
import GoSem.ClaimJoined
import GoSem.ClaimMapViews
import Derived.JoinedTies
import Derived.KernelRfl
namespace Go.Proofs.Ytmopimjhljellaa
/- THE CELL 'sum', in the pinned program and in every row, IS THE sha256 OF THE DUMP (.gsa) THAT YtmopimjhljellaaProg.lean LOADS. Nothing in Lean hashes anything: it is a label: what it is worth is what the hold of that sum in a sandbox is worth. -/
noncomputable def Try.pinned : Pinned := { name := "ytmopimjhljellaa", sum := "a5da0a1c8695c979564f94d0e35a1f63f11ae8e0e4b3513bb178dff238bf2a99", checked := Try.checked }
namespace Rows
def none {H : Type} : Left H := { results := [], args := [] }

/-- 'isthmuslaw4.TableAll': WHATEVER THE INPUT: true; the input reads as it did. -/
def tableAllSpec : ChangeSpec := { name := "tableAll", fn := fun _ => fun
  | [d1, d2, d3, d4] => { results := [.lit (.bool true)], args := [d1, d2, d3, d4] }
  | _ => none }
def tableAllRow : OpenClaim := { program := "ytmopimjhljellaa", sum := "a5da0a1c8695c979564f94d0e35a1f63f11ae8e0e4b3513bb178dff238bf2a99", func := "isthmus/isthmuslaw4.TableAll", spec := "tableAll", unfollowed := true, recurses := true, apart := false }
def TableAllSaid : Prop := tableAllRow.holds Try.pinned (OpenSpec.ofChange tableAllSpec)

/-- ITS FALSE NEIGHBOUR: 'it returns false'. Refute it at one input. -/
def tableAllWrong : ChangeSpec := { name := "tableAll", fn := fun _ => fun
  | [d1, d2, d3, d4] => { results := [.lit (.bool false)], args := [d1, d2, d3, d4] }
  | _ => none }
def TableAllWrongFalsely : Prop := tableAllRow.holds Try.pinned (OpenSpec.ofChange tableAllWrong)

/-- 'isthmuslaw4.TableIter': WHATEVER THE INPUT: true; the input reads as it did. -/
def tableIterSpec : ChangeSpec := { name := "tableIter", fn := fun _ => fun
  | [d1, d2, d3] => { results := [.lit (.bool true)], args := [d1, d2, d3] }
  | _ => none }
def tableIterRow : OpenClaim := { program := "ytmopimjhljellaa", sum := "a5da0a1c8695c979564f94d0e35a1f63f11ae8e0e4b3513bb178dff238bf2a99", func := "isthmus/isthmuslaw4.TableIter", spec := "tableIter", unfollowed := true, recurses := true, apart := false }
def TableIterSaid : Prop := tableIterRow.holds Try.pinned (OpenSpec.ofChange tableIterSpec)

/-- ITS FALSE NEIGHBOUR: 'it returns false'. Refute it at one input. -/
def tableIterWrong : ChangeSpec := { name := "tableIter", fn := fun _ => fun
  | [d1, d2, d3] => { results := [.lit (.bool false)], args := [d1, d2, d3] }
  | _ => none }
def TableIterWrongFalsely : Prop := tableIterRow.holds Try.pinned (OpenSpec.ofChange tableIterWrong)

/-- 'isthmuslaw4.TableNone': WHATEVER THE INPUT: true; the input reads as it did. -/
def tableNoneSpec : ChangeSpec := { name := "tableNone", fn := fun _ => fun
  | [] => { results := [.lit (.bool true)], args := [] }
  | _ => none }
def tableNoneRow : OpenClaim := { program := "ytmopimjhljellaa", sum := "a5da0a1c8695c979564f94d0e35a1f63f11ae8e0e4b3513bb178dff238bf2a99", func := "isthmus/isthmuslaw4.TableNone", spec := "tableNone", unfollowed := true, recurses := true, apart := false }
def TableNoneSaid : Prop := tableNoneRow.holds Try.pinned (OpenSpec.ofChange tableNoneSpec)

/-- ITS FALSE NEIGHBOUR: 'it returns false'. Refute it at one input. -/
def tableNoneWrong : ChangeSpec := { name := "tableNone", fn := fun _ => fun
  | [] => { results := [.lit (.bool false)], args := [] }
  | _ => none }
def TableNoneWrongFalsely : Prop := tableNoneRow.holds Try.pinned (OpenSpec.ofChange tableNoneWrong)

/-- 'isthmuslaw4.TableNewest': WHATEVER THE INPUT: true; the input reads as it did. -/
def tableNewestSpec : ChangeSpec := { name := "tableNewest", fn := fun _ => fun
  | [d1, d2, d3] => { results := [.lit (.bool true)], args := [d1, d2, d3] }
  | _ => none }
def tableNewestRow : OpenClaim := { program := "ytmopimjhljellaa", sum := "a5da0a1c8695c979564f94d0e35a1f63f11ae8e0e4b3513bb178dff238bf2a99", func := "isthmus/isthmuslaw4.TableNewest", spec := "tableNewest", unfollowed := true, recurses := true, apart := false }
def TableNewestSaid : Prop := tableNewestRow.holds Try.pinned (OpenSpec.ofChange tableNewestSpec)

/-- ITS FALSE NEIGHBOUR: 'it returns false'. Refute it at one input. -/
def tableNewestWrong : ChangeSpec := { name := "tableNewest", fn := fun _ => fun
  | [d1, d2, d3] => { results := [.lit (.bool false)], args := [d1, d2, d3] }
  | _ => none }
def TableNewestWrongFalsely : Prop := tableNewestRow.holds Try.pinned (OpenSpec.ofChange tableNewestWrong)

/-- 'isthmuslaw4.TableBound': WHATEVER THE INPUT: true; the input reads as it did. -/
def tableBoundSpec : ChangeSpec := { name := "tableBound", fn := fun _ => fun
  | [d1, d2] => { results := [.lit (.bool true)], args := [d1, d2] }
  | _ => none }
def tableBoundRow : OpenClaim := { program := "ytmopimjhljellaa", sum := "a5da0a1c8695c979564f94d0e35a1f63f11ae8e0e4b3513bb178dff238bf2a99", func := "isthmus/isthmuslaw4.TableBound", spec := "tableBound", unfollowed := true, recurses := true, apart := false }
def TableBoundSaid : Prop := tableBoundRow.holds Try.pinned (OpenSpec.ofChange tableBoundSpec)

/-- ITS FALSE NEIGHBOUR: 'it returns false'. Refute it at one input. -/
def tableBoundWrong : ChangeSpec := { name := "tableBound", fn := fun _ => fun
  | [d1, d2] => { results := [.lit (.bool false)], args := [d1, d2] }
  | _ => none }
def TableBoundWrongFalsely : Prop := tableBoundRow.holds Try.pinned (OpenSpec.ofChange tableBoundWrong)

/- THE SECOND FORM. 'bulk': how many values and letters a reading holds, each counted each time it is reached (what is shared counts as often as it is met; a slice's spare places count too). A statement '..UptoSaid' is the law's where the arguments, and the package variables that the reading takes, are together of bulk at most 1048576: NARROWER than '..Said'. Prove '..Said' where nothing that the law and all that it calls make is longer than what came in: it says more and counts as full. Else prove '..UptoSaid'. A law counts once. -/
mutual
def uptoBulk {H : Type} : DataW H → Nat
  | .lit (.string bytes) => bytes.length + 1
  | .lit _ => 1
  | .nil => 1
  | .ptr d => uptoBulk d + 1
  | .slice elems spare => uptoBulkAll elems + uptoBulkAll spare + 1
  | .agg parts => uptoBulkAll parts + 1
  | .iface _ d => uptoBulk d + 1
  | .map entries => uptoBulkEntries entries + 1
  | .held _ => 1
def uptoBulkAll {H : Type} : List (DataW H) → Nat
  | [] => 0
  | d :: r => uptoBulk d + uptoBulkAll r
def uptoBulkEntries {H : Type} : List (Lit × DataW H) → Nat
  | [] => 0
  | x :: r => uptoBulkEntry x + uptoBulkEntries r
def uptoBulkEntry {H : Type} : Lit × DataW H → Nat
  | (.string bytes, d) => bytes.length + uptoBulk d + 1
  | (_, d) => uptoBulk d + 1
 end
def uptoSmall : (H : Type) → List (DataW H) → Bool := fun _ ds => decide (uptoBulkAll ds ≤ 1048576)
def OpenSpec.upto (s : _root_.Go.ChangeSpec) : _root_.Go.OpenSpec := { _root_.Go.OpenSpec.ofChange s with cond := some uptoSmall }

/-- 'isthmuslaw4.TableAll', WHERE WHAT IT READS IS OF BULK AT MOST 1048576: true; the input reads as it did. -/
def tableAllUptoRow : OpenClaim := { program := "ytmopimjhljellaa", sum := "a5da0a1c8695c979564f94d0e35a1f63f11ae8e0e4b3513bb178dff238bf2a99", func := "isthmus/isthmuslaw4.TableAll", spec := "tableAll", unfollowed := true, recurses := true, apart := false, narrowed := true }
def TableAllUptoSaid : Prop := tableAllUptoRow.holds Try.pinned (OpenSpec.upto tableAllSpec)

/-- 'isthmuslaw4.TableIter', WHERE WHAT IT READS IS OF BULK AT MOST 1048576: true; the input reads as it did. -/
def tableIterUptoRow : OpenClaim := { program := "ytmopimjhljellaa", sum := "a5da0a1c8695c979564f94d0e35a1f63f11ae8e0e4b3513bb178dff238bf2a99", func := "isthmus/isthmuslaw4.TableIter", spec := "tableIter", unfollowed := true, recurses := true, apart := false, narrowed := true }
def TableIterUptoSaid : Prop := tableIterUptoRow.holds Try.pinned (OpenSpec.upto tableIterSpec)

/-- 'isthmuslaw4.TableNone', WHERE WHAT IT READS IS OF BULK AT MOST 1048576: true; the input reads as it did. -/
def tableNoneUptoRow : OpenClaim := { program := "ytmopimjhljellaa", sum := "a5da0a1c8695c979564f94d0e35a1f63f11ae8e0e4b3513bb178dff238bf2a99", func := "isthmus/isthmuslaw4.TableNone", spec := "tableNone", unfollowed := true, recurses := true, apart := false, narrowed := true }
def TableNoneUptoSaid : Prop := tableNoneUptoRow.holds Try.pinned (OpenSpec.upto tableNoneSpec)

/-- 'isthmuslaw4.TableNewest', WHERE WHAT IT READS IS OF BULK AT MOST 1048576: true; the input reads as it did. -/
def tableNewestUptoRow : OpenClaim := { program := "ytmopimjhljellaa", sum := "a5da0a1c8695c979564f94d0e35a1f63f11ae8e0e4b3513bb178dff238bf2a99", func := "isthmus/isthmuslaw4.TableNewest", spec := "tableNewest", unfollowed := true, recurses := true, apart := false, narrowed := true }
def TableNewestUptoSaid : Prop := tableNewestUptoRow.holds Try.pinned (OpenSpec.upto tableNewestSpec)

/-- 'isthmuslaw4.TableBound', WHERE WHAT IT READS IS OF BULK AT MOST 1048576: true; the input reads as it did. -/
def tableBoundUptoRow : OpenClaim := { program := "ytmopimjhljellaa", sum := "a5da0a1c8695c979564f94d0e35a1f63f11ae8e0e4b3513bb178dff238bf2a99", func := "isthmus/isthmuslaw4.TableBound", spec := "tableBound", unfollowed := true, recurses := true, apart := false, narrowed := true }
def TableBoundUptoSaid : Prop := tableBoundUptoRow.holds Try.pinned (OpenSpec.upto tableBoundSpec)

end Rows
end Go.Proofs.Ytmopimjhljellaa
