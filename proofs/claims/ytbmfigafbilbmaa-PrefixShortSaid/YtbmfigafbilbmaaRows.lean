/-
  No cell of these rows narrows 'for every input' (looked for: loops, veiled, ifaces, maps, wideKeys, modest, calm, conditions, laid).
  DERIVED. THE GIVEN ROWS OF THIS SEAT. 5 by the template 'for every input the law returns true; each argument reads behind the call as it read before'; 0 by the template 'total and deterministic' (their statements: YtbmfigafbilbmaaTotals.lean).
  GIVEN WITH THE SEED: the statements are not yours to turn. If you find one false, say at which input.
  Laid BY PROGRAM, IN A SANDBOX (cutbox-rows.mjs): the forced cells as the released guide's own fill.sh prints them over the translation 53909c9c49b4f420… (all of the seat's roots in one cut). By AI agents, Wed Nov 11 2026. No macro, syntax, notation, axiom, sorry.
-/
import Derived.Test.YtbmfigafbilbmaaChecked
import GoSem.Claim
import GoSem.ClaimJoined
import GoSem.ClaimMapViews
import Derived.JoinedTies
import Derived.KernelRfl
namespace Go.Proofs.Ytbmfigafbilbmaa
/- THE CELL 'sum', in the pinned program and in every row, IS THE sha256 OF THE DUMP (.gsa) THAT YtbmfigafbilbmaaProg.lean LOADS. Nothing in Lean hashes anything: it is a label: what it is worth is what the hold of that sum in a sandbox is worth. -/
noncomputable def Try.pinned : Pinned := { name := "ytbmfigafbilbmaa", sum := "53909c9c49b4f420d63a390b1f0b7975be59da9c668eeb453d28dbac43222303", checked := Try.checked }
namespace Rows
def none {H : Type} : Left H := { results := [], args := [] }

/-- 'isthmuslaw1.PrefixPut': WHATEVER THE INPUT: true; the input reads as it did. -/
def prefixPutSpec : ChangeSpec := { name := "prefixPut", fn := fun _ => fun
  | [d1, d2, d3] => { results := [.lit (.bool true)], args := [d1, d2, d3] }
  | _ => none }
def prefixPutRow : OpenClaim := { program := "ytbmfigafbilbmaa", sum := "53909c9c49b4f420d63a390b1f0b7975be59da9c668eeb453d28dbac43222303", func := "isthmus/isthmuslaw1.PrefixPut", spec := "prefixPut", apart := false }
def PrefixPutSaid : Prop := prefixPutRow.holds Try.pinned (OpenSpec.ofChange prefixPutSpec)

/-- ITS FALSE NEIGHBOUR: 'it returns false'. Refute it at one input. -/
def prefixPutWrong : ChangeSpec := { name := "prefixPut", fn := fun _ => fun
  | [d1, d2, d3] => { results := [.lit (.bool false)], args := [d1, d2, d3] }
  | _ => none }
def PrefixPutWrongFalsely : Prop := prefixPutRow.holds Try.pinned (OpenSpec.ofChange prefixPutWrong)

/-- 'isthmuslaw1.PrefixGet': WHATEVER THE INPUT: true; the input reads as it did. -/
def prefixGetSpec : ChangeSpec := { name := "prefixGet", fn := fun _ => fun
  | [d1, d2] => { results := [.lit (.bool true)], args := [d1, d2] }
  | _ => none }
def prefixGetRow : OpenClaim := { program := "ytbmfigafbilbmaa", sum := "53909c9c49b4f420d63a390b1f0b7975be59da9c668eeb453d28dbac43222303", func := "isthmus/isthmuslaw1.PrefixGet", spec := "prefixGet", apart := false }
def PrefixGetSaid : Prop := prefixGetRow.holds Try.pinned (OpenSpec.ofChange prefixGetSpec)

/-- ITS FALSE NEIGHBOUR: 'it returns false'. Refute it at one input. -/
def prefixGetWrong : ChangeSpec := { name := "prefixGet", fn := fun _ => fun
  | [d1, d2] => { results := [.lit (.bool false)], args := [d1, d2] }
  | _ => none }
def PrefixGetWrongFalsely : Prop := prefixGetRow.holds Try.pinned (OpenSpec.ofChange prefixGetWrong)

/-- 'isthmuslaw1.PrefixBack': WHATEVER THE INPUT: true; the input reads as it did. -/
def prefixBackSpec : ChangeSpec := { name := "prefixBack", fn := fun _ => fun
  | [d1, d2, d3, d4] => { results := [.lit (.bool true)], args := [d1, d2, d3, d4] }
  | _ => none }
def prefixBackRow : OpenClaim := { program := "ytbmfigafbilbmaa", sum := "53909c9c49b4f420d63a390b1f0b7975be59da9c668eeb453d28dbac43222303", func := "isthmus/isthmuslaw1.PrefixBack", spec := "prefixBack", apart := false }
def PrefixBackSaid : Prop := prefixBackRow.holds Try.pinned (OpenSpec.ofChange prefixBackSpec)

/-- ITS FALSE NEIGHBOUR: 'it returns false'. Refute it at one input. -/
def prefixBackWrong : ChangeSpec := { name := "prefixBack", fn := fun _ => fun
  | [d1, d2, d3, d4] => { results := [.lit (.bool false)], args := [d1, d2, d3, d4] }
  | _ => none }
def PrefixBackWrongFalsely : Prop := prefixBackRow.holds Try.pinned (OpenSpec.ofChange prefixBackWrong)

/-- 'isthmuslaw1.PrefixShort': WHATEVER THE INPUT: true; the input reads as it did. -/
def prefixShortSpec : ChangeSpec := { name := "prefixShort", fn := fun _ => fun
  | [d1, d2] => { results := [.lit (.bool true)], args := [d1, d2] }
  | _ => none }
def prefixShortRow : OpenClaim := { program := "ytbmfigafbilbmaa", sum := "53909c9c49b4f420d63a390b1f0b7975be59da9c668eeb453d28dbac43222303", func := "isthmus/isthmuslaw1.PrefixShort", spec := "prefixShort", apart := false }
def PrefixShortSaid : Prop := prefixShortRow.holds Try.pinned (OpenSpec.ofChange prefixShortSpec)

/-- ITS FALSE NEIGHBOUR: 'it returns false'. Refute it at one input. -/
def prefixShortWrong : ChangeSpec := { name := "prefixShort", fn := fun _ => fun
  | [d1, d2] => { results := [.lit (.bool false)], args := [d1, d2] }
  | _ => none }
def PrefixShortWrongFalsely : Prop := prefixShortRow.holds Try.pinned (OpenSpec.ofChange prefixShortWrong)

/-- 'isthmuslaw1.PrefixOrder': WHATEVER THE INPUT: true; the input reads as it did. -/
def prefixOrderSpec : ChangeSpec := { name := "prefixOrder", fn := fun _ => fun
  | [d1, d2, d3] => { results := [.lit (.bool true)], args := [d1, d2, d3] }
  | _ => none }
def prefixOrderRow : OpenClaim := { program := "ytbmfigafbilbmaa", sum := "53909c9c49b4f420d63a390b1f0b7975be59da9c668eeb453d28dbac43222303", func := "isthmus/isthmuslaw1.PrefixOrder", spec := "prefixOrder", apart := false }
def PrefixOrderSaid : Prop := prefixOrderRow.holds Try.pinned (OpenSpec.ofChange prefixOrderSpec)

/-- ITS FALSE NEIGHBOUR: 'it returns false'. Refute it at one input. -/
def prefixOrderWrong : ChangeSpec := { name := "prefixOrder", fn := fun _ => fun
  | [d1, d2, d3] => { results := [.lit (.bool false)], args := [d1, d2, d3] }
  | _ => none }
def PrefixOrderWrongFalsely : Prop := prefixOrderRow.holds Try.pinned (OpenSpec.ofChange prefixOrderWrong)

/- THE SECOND FORM. 'bulk': how many values and letters a reading holds, each counted each time it is reached (what is shared counts as often as it is met; a slice's spare places count too). A statement '..UptoSaid' is the law's where the arguments, and the package variables that the reading takes, are together of bulk at most 1048576: NARROWER than '..Said'. Prove '..Said' where nothing that the law and all that it calls make is longer than what came in: it says more and counts as full. Else prove '..UptoSaid'. A law counts once. -/
mutual
def uptoBulk {H : Type} : DataW H → Nat
  | .lit (.string bytes) => bytes.length + 1
  | .lit _ => 1
  | .nil => 1
  | .ptr d => uptoBulk d + 1
  | .slice elems spare => uptoBulkAll elems + uptoBulkAll spare + 1
  | .agg parts => uptoBulkAll parts + 1
  | .iface _ d => uptoBulk d + 1
  | .map entries => uptoBulkEntries entries + 1
  | .held _ => 1
def uptoBulkAll {H : Type} : List (DataW H) → Nat
  | [] => 0
  | d :: r => uptoBulk d + uptoBulkAll r
def uptoBulkEntries {H : Type} : List (Lit × DataW H) → Nat
  | [] => 0
  | x :: r => uptoBulkEntry x + uptoBulkEntries r
def uptoBulkEntry {H : Type} : Lit × DataW H → Nat
  | (.string bytes, d) => bytes.length + uptoBulk d + 1
  | (_, d) => uptoBulk d + 1
 end
def uptoSmall : (H : Type) → List (DataW H) → Bool := fun _ ds => decide (uptoBulkAll ds ≤ 1048576)
def OpenSpec.upto (s : _root_.Go.ChangeSpec) : _root_.Go.OpenSpec := { _root_.Go.OpenSpec.ofChange s with cond := some uptoSmall }

/-- 'isthmuslaw1.PrefixPut', WHERE WHAT IT READS IS OF BULK AT MOST 1048576: true; the input reads as it did. -/
def prefixPutUptoRow : OpenClaim := { program := "ytbmfigafbilbmaa", sum := "53909c9c49b4f420d63a390b1f0b7975be59da9c668eeb453d28dbac43222303", func := "isthmus/isthmuslaw1.PrefixPut", spec := "prefixPut", apart := false, narrowed := true }
def PrefixPutUptoSaid : Prop := prefixPutUptoRow.holds Try.pinned (OpenSpec.upto prefixPutSpec)

/-- 'isthmuslaw1.PrefixGet', WHERE WHAT IT READS IS OF BULK AT MOST 1048576: true; the input reads as it did. -/
def prefixGetUptoRow : OpenClaim := { program := "ytbmfigafbilbmaa", sum := "53909c9c49b4f420d63a390b1f0b7975be59da9c668eeb453d28dbac43222303", func := "isthmus/isthmuslaw1.PrefixGet", spec := "prefixGet", apart := false, narrowed := true }
def PrefixGetUptoSaid : Prop := prefixGetUptoRow.holds Try.pinned (OpenSpec.upto prefixGetSpec)

/-- 'isthmuslaw1.PrefixBack', WHERE WHAT IT READS IS OF BULK AT MOST 1048576: true; the input reads as it did. -/
def prefixBackUptoRow : OpenClaim := { program := "ytbmfigafbilbmaa", sum := "53909c9c49b4f420d63a390b1f0b7975be59da9c668eeb453d28dbac43222303", func := "isthmus/isthmuslaw1.PrefixBack", spec := "prefixBack", apart := false, narrowed := true }
def PrefixBackUptoSaid : Prop := prefixBackUptoRow.holds Try.pinned (OpenSpec.upto prefixBackSpec)

/-- 'isthmuslaw1.PrefixShort', WHERE WHAT IT READS IS OF BULK AT MOST 1048576: true; the input reads as it did. -/
def prefixShortUptoRow : OpenClaim := { program := "ytbmfigafbilbmaa", sum := "53909c9c49b4f420d63a390b1f0b7975be59da9c668eeb453d28dbac43222303", func := "isthmus/isthmuslaw1.PrefixShort", spec := "prefixShort", apart := false, narrowed := true }
def PrefixShortUptoSaid : Prop := prefixShortUptoRow.holds Try.pinned (OpenSpec.upto prefixShortSpec)

/-- 'isthmuslaw1.PrefixOrder', WHERE WHAT IT READS IS OF BULK AT MOST 1048576: true; the input reads as it did. -/
def prefixOrderUptoRow : OpenClaim := { program := "ytbmfigafbilbmaa", sum := "53909c9c49b4f420d63a390b1f0b7975be59da9c668eeb453d28dbac43222303", func := "isthmus/isthmuslaw1.PrefixOrder", spec := "prefixOrder", apart := false, narrowed := true }
def PrefixOrderUptoSaid : Prop := prefixOrderUptoRow.holds Try.pinned (OpenSpec.upto prefixOrderSpec)

end Rows
end Go.Proofs.Ytbmfigafbilbmaa
