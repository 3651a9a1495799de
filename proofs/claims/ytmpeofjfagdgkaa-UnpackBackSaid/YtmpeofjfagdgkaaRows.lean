/-
  No cell of these rows narrows 'for every input' (looked for: loops, veiled, ifaces, maps, wideKeys, modest, calm, conditions, laid).
  DERIVED. THE GIVEN ROWS OF THIS SEAT. 12 by the template 'for every input the law returns true; each argument reads behind the call as it read before'; 0 by the template 'total and deterministic' (their statements: YtmpeofjfagdgkaaTotals.lean).
  GIVEN WITH THE SEED: the statements are not yours to turn. If you find one false, say at which input.
  Laid BY PROGRAM, IN A SANDBOX (cutbox-rows.mjs): the forced cells as the released guide's own fill.sh prints them over the translation 20b982c9bbef71d5… (all of the seat's roots in one cut). By AI agents, Wed Nov 11 2026. No macro, syntax, notation, axiom, sorry.
-/
import Derived.Test.YtmpeofjfagdgkaaChecked
import GoSem.Claim
import GoSem.ClaimJoined
import GoSem.ClaimMapViews
import Derived.JoinedTies
import Derived.KernelRfl
namespace Go.Proofs.Ytmpeofjfagdgkaa
/- THE CELL 'sum', in the pinned program and in every row, IS THE sha256 OF THE DUMP (.gsa) THAT YtmpeofjfagdgkaaProg.lean LOADS. Nothing in Lean hashes anything: it is a label: what it is worth is what the hold of that sum in a sandbox is worth. -/
noncomputable def Try.pinned : Pinned := { name := "ytmpeofjfagdgkaa", sum := "20b982c9bbef71d5f2eb3df4904ade4d519163d041f710630a9b58c968f1d89f", checked := Try.checked }
namespace Rows
def none {H : Type} : Left H := { results := [], args := [] }

/-- 'isthmuslaw5.PackAll': WHATEVER THE INPUT: true; the input reads as it did. -/
def packAllSpec : ChangeSpec := { name := "packAll", fn := fun _ => fun
  | [d] => { results := [.lit (.bool true)], args := [d] }
  | _ => none }
def packAllRow : OpenClaim := { program := "ytmpeofjfagdgkaa", sum := "20b982c9bbef71d5f2eb3df4904ade4d519163d041f710630a9b58c968f1d89f", func := "isthmus/isthmuslaw5.PackAll", spec := "packAll", inPlace := ["internal/bytealg.IndexByteString", "internal/bytealg.IndexString"], unfollowed := true, recurses := true, named := ["internal/bytealg.MaxLen"], apart := false }
def PackAllSaid : Prop := packAllRow.holds Try.pinned (OpenSpec.ofChange packAllSpec)

/-- ITS FALSE NEIGHBOUR: 'it returns false'. Refute it at one input. -/
def packAllWrong : ChangeSpec := { name := "packAll", fn := fun _ => fun
  | [d] => { results := [.lit (.bool false)], args := [d] }
  | _ => none }
def PackAllWrongFalsely : Prop := packAllRow.holds Try.pinned (OpenSpec.ofChange packAllWrong)

/-- 'isthmuslaw5.PackText': WHATEVER THE INPUT: true; the input reads as it did. -/
def packTextSpec : ChangeSpec := { name := "packText", fn := fun _ => fun
  | [d] => { results := [.lit (.bool true)], args := [d] }
  | _ => none }
def packTextRow : OpenClaim := { program := "ytmpeofjfagdgkaa", sum := "20b982c9bbef71d5f2eb3df4904ade4d519163d041f710630a9b58c968f1d89f", func := "isthmus/isthmuslaw5.PackText", spec := "packText", inPlace := ["internal/bytealg.IndexByteString", "internal/bytealg.IndexString"], unfollowed := true, recurses := true, named := ["internal/bytealg.MaxLen"], apart := false }
def PackTextSaid : Prop := packTextRow.holds Try.pinned (OpenSpec.ofChange packTextSpec)

/-- ITS FALSE NEIGHBOUR: 'it returns false'. Refute it at one input. -/
def packTextWrong : ChangeSpec := { name := "packText", fn := fun _ => fun
  | [d] => { results := [.lit (.bool false)], args := [d] }
  | _ => none }
def PackTextWrongFalsely : Prop := packTextRow.holds Try.pinned (OpenSpec.ofChange packTextWrong)

/-- 'isthmuslaw5.PackTwo': WHATEVER THE INPUT: true; the input reads as it did. -/
def packTwoSpec : ChangeSpec := { name := "packTwo", fn := fun _ => fun
  | [d1, d2] => { results := [.lit (.bool true)], args := [d1, d2] }
  | _ => none }
def packTwoRow : OpenClaim := { program := "ytmpeofjfagdgkaa", sum := "20b982c9bbef71d5f2eb3df4904ade4d519163d041f710630a9b58c968f1d89f", func := "isthmus/isthmuslaw5.PackTwo", spec := "packTwo", inPlace := ["internal/bytealg.IndexByteString", "internal/bytealg.IndexString"], unfollowed := true, recurses := true, named := ["internal/bytealg.MaxLen"], apart := false }
def PackTwoSaid : Prop := packTwoRow.holds Try.pinned (OpenSpec.ofChange packTwoSpec)

/-- ITS FALSE NEIGHBOUR: 'it returns false'. Refute it at one input. -/
def packTwoWrong : ChangeSpec := { name := "packTwo", fn := fun _ => fun
  | [d1, d2] => { results := [.lit (.bool false)], args := [d1, d2] }
  | _ => none }
def PackTwoWrongFalsely : Prop := packTwoRow.holds Try.pinned (OpenSpec.ofChange packTwoWrong)

/-- 'isthmuslaw5.PackNone': WHATEVER THE INPUT: true; the input reads as it did. -/
def packNoneSpec : ChangeSpec := { name := "packNone", fn := fun _ => fun
  | [] => { results := [.lit (.bool true)], args := [] }
  | _ => none }
def packNoneRow : OpenClaim := { program := "ytmpeofjfagdgkaa", sum := "20b982c9bbef71d5f2eb3df4904ade4d519163d041f710630a9b58c968f1d89f", func := "isthmus/isthmuslaw5.PackNone", spec := "packNone", inPlace := ["internal/bytealg.IndexByteString", "internal/bytealg.IndexString"], unfollowed := true, recurses := true, named := ["internal/bytealg.MaxLen"], apart := false }
def PackNoneSaid : Prop := packNoneRow.holds Try.pinned (OpenSpec.ofChange packNoneSpec)

/-- ITS FALSE NEIGHBOUR: 'it returns false'. Refute it at one input. -/
def packNoneWrong : ChangeSpec := { name := "packNone", fn := fun _ => fun
  | [] => { results := [.lit (.bool false)], args := [] }
  | _ => none }
def PackNoneWrongFalsely : Prop := packNoneRow.holds Try.pinned (OpenSpec.ofChange packNoneWrong)

/-- 'isthmuslaw5.PackAgain': WHATEVER THE INPUT: true; the input reads as it did. -/
def packAgainSpec : ChangeSpec := { name := "packAgain", fn := fun _ => fun
  | [d] => { results := [.lit (.bool true)], args := [d] }
  | _ => none }
def packAgainRow : OpenClaim := { program := "ytmpeofjfagdgkaa", sum := "20b982c9bbef71d5f2eb3df4904ade4d519163d041f710630a9b58c968f1d89f", func := "isthmus/isthmuslaw5.PackAgain", spec := "packAgain", inPlace := ["internal/bytealg.IndexByteString", "internal/bytealg.IndexString"], unfollowed := true, recurses := true, named := ["internal/bytealg.MaxLen"], apart := false }
def PackAgainSaid : Prop := packAgainRow.holds Try.pinned (OpenSpec.ofChange packAgainSpec)

/-- ITS FALSE NEIGHBOUR: 'it returns false'. Refute it at one input. -/
def packAgainWrong : ChangeSpec := { name := "packAgain", fn := fun _ => fun
  | [d] => { results := [.lit (.bool false)], args := [d] }
  | _ => none }
def PackAgainWrongFalsely : Prop := packAgainRow.holds Try.pinned (OpenSpec.ofChange packAgainWrong)

/-- 'isthmuslaw5.PackNever': WHATEVER THE INPUT: true; the input reads as it did. -/
def packNeverSpec : ChangeSpec := { name := "packNever", fn := fun _ => fun
  | [d1, d2] => { results := [.lit (.bool true)], args := [d1, d2] }
  | _ => none }
def packNeverRow : OpenClaim := { program := "ytmpeofjfagdgkaa", sum := "20b982c9bbef71d5f2eb3df4904ade4d519163d041f710630a9b58c968f1d89f", func := "isthmus/isthmuslaw5.PackNever", spec := "packNever", inPlace := ["internal/bytealg.IndexByteString", "internal/bytealg.IndexString"], unfollowed := true, recurses := true, named := ["internal/bytealg.MaxLen"], apart := false }
def PackNeverSaid : Prop := packNeverRow.holds Try.pinned (OpenSpec.ofChange packNeverSpec)

/-- ITS FALSE NEIGHBOUR: 'it returns false'. Refute it at one input. -/
def packNeverWrong : ChangeSpec := { name := "packNever", fn := fun _ => fun
  | [d1, d2] => { results := [.lit (.bool false)], args := [d1, d2] }
  | _ => none }
def PackNeverWrongFalsely : Prop := packNeverRow.holds Try.pinned (OpenSpec.ofChange packNeverWrong)

/-- 'isthmuslaw5.PackZero': WHATEVER THE INPUT: true; the input reads as it did. -/
def packZeroSpec : ChangeSpec := { name := "packZero", fn := fun _ => fun
  | [d1, d2] => { results := [.lit (.bool true)], args := [d1, d2] }
  | _ => none }
def packZeroRow : OpenClaim := { program := "ytmpeofjfagdgkaa", sum := "20b982c9bbef71d5f2eb3df4904ade4d519163d041f710630a9b58c968f1d89f", func := "isthmus/isthmuslaw5.PackZero", spec := "packZero", inPlace := ["internal/bytealg.IndexByteString", "internal/bytealg.IndexString"], unfollowed := true, recurses := true, named := ["internal/bytealg.MaxLen"], apart := false }
def PackZeroSaid : Prop := packZeroRow.holds Try.pinned (OpenSpec.ofChange packZeroSpec)

/-- ITS FALSE NEIGHBOUR: 'it returns false'. Refute it at one input. -/
def packZeroWrong : ChangeSpec := { name := "packZero", fn := fun _ => fun
  | [d1, d2] => { results := [.lit (.bool false)], args := [d1, d2] }
  | _ => none }
def PackZeroWrongFalsely : Prop := packZeroRow.holds Try.pinned (OpenSpec.ofChange packZeroWrong)

/-- 'isthmuslaw6.UnpackBroken': WHATEVER THE INPUT: true; the input reads as it did. -/
def unpackBrokenSpec : ChangeSpec := { name := "unpackBroken", fn := fun _ => fun
  | [d1, d2, d3] => { results := [.lit (.bool true)], args := [d1, d2, d3] }
  | _ => none }
def unpackBrokenRow : OpenClaim := { program := "ytmpeofjfagdgkaa", sum := "20b982c9bbef71d5f2eb3df4904ade4d519163d041f710630a9b58c968f1d89f", func := "isthmus/isthmuslaw6.UnpackBroken", spec := "unpackBroken", inPlace := ["internal/bytealg.IndexByteString", "internal/bytealg.IndexString"], unfollowed := true, recurses := true, named := ["internal/bytealg.MaxLen"], apart := false }
def UnpackBrokenSaid : Prop := unpackBrokenRow.holds Try.pinned (OpenSpec.ofChange unpackBrokenSpec)

/-- ITS FALSE NEIGHBOUR: 'it returns false'. Refute it at one input. -/
def unpackBrokenWrong : ChangeSpec := { name := "unpackBroken", fn := fun _ => fun
  | [d1, d2, d3] => { results := [.lit (.bool false)], args := [d1, d2, d3] }
  | _ => none }
def UnpackBrokenWrongFalsely : Prop := unpackBrokenRow.holds Try.pinned (OpenSpec.ofChange unpackBrokenWrong)

/-- 'isthmuslaw6.UnpackNone': WHATEVER THE INPUT: true; the input reads as it did. -/
def unpackNoneSpec : ChangeSpec := { name := "unpackNone", fn := fun _ => fun
  | [] => { results := [.lit (.bool true)], args := [] }
  | _ => none }
def unpackNoneRow : OpenClaim := { program := "ytmpeofjfagdgkaa", sum := "20b982c9bbef71d5f2eb3df4904ade4d519163d041f710630a9b58c968f1d89f", func := "isthmus/isthmuslaw6.UnpackNone", spec := "unpackNone", inPlace := ["internal/bytealg.IndexByteString", "internal/bytealg.IndexString"], unfollowed := true, recurses := true, named := ["internal/bytealg.MaxLen"], apart := false }
def UnpackNoneSaid : Prop := unpackNoneRow.holds Try.pinned (OpenSpec.ofChange unpackNoneSpec)

/-- ITS FALSE NEIGHBOUR: 'it returns false'. Refute it at one input. -/
def unpackNoneWrong : ChangeSpec := { name := "unpackNone", fn := fun _ => fun
  | [] => { results := [.lit (.bool false)], args := [] }
  | _ => none }
def UnpackNoneWrongFalsely : Prop := unpackNoneRow.holds Try.pinned (OpenSpec.ofChange unpackNoneWrong)

/-- 'isthmuslaw6.UnpackTwo': WHATEVER THE INPUT: true; the input reads as it did. -/
def unpackTwoSpec : ChangeSpec := { name := "unpackTwo", fn := fun _ => fun
  | [d1, d2] => { results := [.lit (.bool true)], args := [d1, d2] }
  | _ => none }
def unpackTwoRow : OpenClaim := { program := "ytmpeofjfagdgkaa", sum := "20b982c9bbef71d5f2eb3df4904ade4d519163d041f710630a9b58c968f1d89f", func := "isthmus/isthmuslaw6.UnpackTwo", spec := "unpackTwo", inPlace := ["internal/bytealg.IndexByteString", "internal/bytealg.IndexString"], unfollowed := true, recurses := true, named := ["internal/bytealg.MaxLen"], apart := false }
def UnpackTwoSaid : Prop := unpackTwoRow.holds Try.pinned (OpenSpec.ofChange unpackTwoSpec)

/-- ITS FALSE NEIGHBOUR: 'it returns false'. Refute it at one input. -/
def unpackTwoWrong : ChangeSpec := { name := "unpackTwo", fn := fun _ => fun
  | [d1, d2] => { results := [.lit (.bool false)], args := [d1, d2] }
  | _ => none }
def UnpackTwoWrongFalsely : Prop := unpackTwoRow.holds Try.pinned (OpenSpec.ofChange unpackTwoWrong)

/-- 'isthmuslaw6.UnpackMost': WHATEVER THE INPUT: true; the input reads as it did. -/
def unpackMostSpec : ChangeSpec := { name := "unpackMost", fn := fun _ => fun
  | [d1, d2] => { results := [.lit (.bool true)], args := [d1, d2] }
  | _ => none }
def unpackMostRow : OpenClaim := { program := "ytmpeofjfagdgkaa", sum := "20b982c9bbef71d5f2eb3df4904ade4d519163d041f710630a9b58c968f1d89f", func := "isthmus/isthmuslaw6.UnpackMost", spec := "unpackMost", inPlace := ["internal/bytealg.IndexByteString", "internal/bytealg.IndexString"], unfollowed := true, recurses := true, named := ["internal/bytealg.MaxLen"], apart := false }
def UnpackMostSaid : Prop := unpackMostRow.holds Try.pinned (OpenSpec.ofChange unpackMostSpec)

/-- ITS FALSE NEIGHBOUR: 'it returns false'. Refute it at one input. -/
def unpackMostWrong : ChangeSpec := { name := "unpackMost", fn := fun _ => fun
  | [d1, d2] => { results := [.lit (.bool false)], args := [d1, d2] }
  | _ => none }
def UnpackMostWrongFalsely : Prop := unpackMostRow.holds Try.pinned (OpenSpec.ofChange unpackMostWrong)

/-- 'isthmuslaw6.UnpackBack': WHATEVER THE INPUT: true; the input reads as it did. -/
def unpackBackSpec : ChangeSpec := { name := "unpackBack", fn := fun _ => fun
  | [d1, d2] => { results := [.lit (.bool true)], args := [d1, d2] }
  | _ => none }
def unpackBackRow : OpenClaim := { program := "ytmpeofjfagdgkaa", sum := "20b982c9bbef71d5f2eb3df4904ade4d519163d041f710630a9b58c968f1d89f", func := "isthmus/isthmuslaw6.UnpackBack", spec := "unpackBack", inPlace := ["internal/bytealg.IndexByteString", "internal/bytealg.IndexString"], unfollowed := true, recurses := true, named := ["internal/bytealg.MaxLen"], apart := false }
def UnpackBackSaid : Prop := unpackBackRow.holds Try.pinned (OpenSpec.ofChange unpackBackSpec)

/-- ITS FALSE NEIGHBOUR: 'it returns false'. Refute it at one input. -/
def unpackBackWrong : ChangeSpec := { name := "unpackBack", fn := fun _ => fun
  | [d1, d2] => { results := [.lit (.bool false)], args := [d1, d2] }
  | _ => none }
def UnpackBackWrongFalsely : Prop := unpackBackRow.holds Try.pinned (OpenSpec.ofChange unpackBackWrong)

/- THE SECOND FORM. 'bulk': how many values and letters a reading holds, each counted each time it is reached (what is shared counts as often as it is met; a slice's spare places count too). A statement '..UptoSaid' is the law's where the arguments, and the package variables that the reading takes, are together of bulk at most 1048576: NARROWER than '..Said'. Prove '..Said' where nothing that the law and all that it calls make is longer than what came in: it says more and counts as full. Else prove '..UptoSaid'. A law counts once. -/
mutual
def uptoBulk {H : Type} : DataW H → Nat
  | .lit (.string bytes) => bytes.length + 1
  | .lit _ => 1
  | .nil => 1
  | .ptr d => uptoBulk d + 1
  | .slice elems spare => uptoBulkAll elems + uptoBulkAll spare + 1
  | .agg parts => uptoBulkAll parts + 1
  | .iface _ d => uptoBulk d + 1
  | .map entries => uptoBulkEntries entries + 1
  | .held _ => 1
def uptoBulkAll {H : Type} : List (DataW H) → Nat
  | [] => 0
  | d :: r => uptoBulk d + uptoBulkAll r
def uptoBulkEntries {H : Type} : List (Lit × DataW H) → Nat
  | [] => 0
  | x :: r => uptoBulkEntry x + uptoBulkEntries r
def uptoBulkEntry {H : Type} : Lit × DataW H → Nat
  | (.string bytes, d) => bytes.length + uptoBulk d + 1
  | (_, d) => uptoBulk d + 1
 end
def uptoSmall : (H : Type) → List (DataW H) → Bool := fun _ ds => decide (uptoBulkAll ds ≤ 1048576)
def OpenSpec.upto (s : _root_.Go.ChangeSpec) : _root_.Go.OpenSpec := { _root_.Go.OpenSpec.ofChange s with cond := some uptoSmall }

/-- 'isthmuslaw5.PackAll', WHERE WHAT IT READS IS OF BULK AT MOST 1048576: true; the input reads as it did. -/
def packAllUptoRow : OpenClaim := { program := "ytmpeofjfagdgkaa", sum := "20b982c9bbef71d5f2eb3df4904ade4d519163d041f710630a9b58c968f1d89f", func := "isthmus/isthmuslaw5.PackAll", spec := "packAll", inPlace := ["internal/bytealg.IndexByteString", "internal/bytealg.IndexString"], unfollowed := true, recurses := true, named := ["internal/bytealg.MaxLen"], apart := false, narrowed := true }
def PackAllUptoSaid : Prop := packAllUptoRow.holds Try.pinned (OpenSpec.upto packAllSpec)

/-- 'isthmuslaw5.PackText', WHERE WHAT IT READS IS OF BULK AT MOST 1048576: true; the input reads as it did. -/
def packTextUptoRow : OpenClaim := { program := "ytmpeofjfagdgkaa", sum := "20b982c9bbef71d5f2eb3df4904ade4d519163d041f710630a9b58c968f1d89f", func := "isthmus/isthmuslaw5.PackText", spec := "packText", inPlace := ["internal/bytealg.IndexByteString", "internal/bytealg.IndexString"], unfollowed := true, recurses := true, named := ["internal/bytealg.MaxLen"], apart := false, narrowed := true }
def PackTextUptoSaid : Prop := packTextUptoRow.holds Try.pinned (OpenSpec.upto packTextSpec)

/-- 'isthmuslaw5.PackTwo', WHERE WHAT IT READS IS OF BULK AT MOST 1048576: true; the input reads as it did. -/
def packTwoUptoRow : OpenClaim := { program := "ytmpeofjfagdgkaa", sum := "20b982c9bbef71d5f2eb3df4904ade4d519163d041f710630a9b58c968f1d89f", func := "isthmus/isthmuslaw5.PackTwo", spec := "packTwo", inPlace := ["internal/bytealg.IndexByteString", "internal/bytealg.IndexString"], unfollowed := true, recurses := true, named := ["internal/bytealg.MaxLen"], apart := false, narrowed := true }
def PackTwoUptoSaid : Prop := packTwoUptoRow.holds Try.pinned (OpenSpec.upto packTwoSpec)

/-- 'isthmuslaw5.PackNone', WHERE WHAT IT READS IS OF BULK AT MOST 1048576: true; the input reads as it did. -/
def packNoneUptoRow : OpenClaim := { program := "ytmpeofjfagdgkaa", sum := "20b982c9bbef71d5f2eb3df4904ade4d519163d041f710630a9b58c968f1d89f", func := "isthmus/isthmuslaw5.PackNone", spec := "packNone", inPlace := ["internal/bytealg.IndexByteString", "internal/bytealg.IndexString"], unfollowed := true, recurses := true, named := ["internal/bytealg.MaxLen"], apart := false, narrowed := true }
def PackNoneUptoSaid : Prop := packNoneUptoRow.holds Try.pinned (OpenSpec.upto packNoneSpec)

/-- 'isthmuslaw5.PackAgain', WHERE WHAT IT READS IS OF BULK AT MOST 1048576: true; the input reads as it did. -/
def packAgainUptoRow : OpenClaim := { program := "ytmpeofjfagdgkaa", sum := "20b982c9bbef71d5f2eb3df4904ade4d519163d041f710630a9b58c968f1d89f", func := "isthmus/isthmuslaw5.PackAgain", spec := "packAgain", inPlace := ["internal/bytealg.IndexByteString", "internal/bytealg.IndexString"], unfollowed := true, recurses := true, named := ["internal/bytealg.MaxLen"], apart := false, narrowed := true }
def PackAgainUptoSaid : Prop := packAgainUptoRow.holds Try.pinned (OpenSpec.upto packAgainSpec)

/-- 'isthmuslaw5.PackNever', WHERE WHAT IT READS IS OF BULK AT MOST 1048576: true; the input reads as it did. -/
def packNeverUptoRow : OpenClaim := { program := "ytmpeofjfagdgkaa", sum := "20b982c9bbef71d5f2eb3df4904ade4d519163d041f710630a9b58c968f1d89f", func := "isthmus/isthmuslaw5.PackNever", spec := "packNever", inPlace := ["internal/bytealg.IndexByteString", "internal/bytealg.IndexString"], unfollowed := true, recurses := true, named := ["internal/bytealg.MaxLen"], apart := false, narrowed := true }
def PackNeverUptoSaid : Prop := packNeverUptoRow.holds Try.pinned (OpenSpec.upto packNeverSpec)

/-- 'isthmuslaw5.PackZero', WHERE WHAT IT READS IS OF BULK AT MOST 1048576: true; the input reads as it did. -/
def packZeroUptoRow : OpenClaim := { program := "ytmpeofjfagdgkaa", sum := "20b982c9bbef71d5f2eb3df4904ade4d519163d041f710630a9b58c968f1d89f", func := "isthmus/isthmuslaw5.PackZero", spec := "packZero", inPlace := ["internal/bytealg.IndexByteString", "internal/bytealg.IndexString"], unfollowed := true, recurses := true, named := ["internal/bytealg.MaxLen"], apart := false, narrowed := true }
def PackZeroUptoSaid : Prop := packZeroUptoRow.holds Try.pinned (OpenSpec.upto packZeroSpec)

/-- 'isthmuslaw6.UnpackBroken', WHERE WHAT IT READS IS OF BULK AT MOST 1048576: true; the input reads as it did. -/
def unpackBrokenUptoRow : OpenClaim := { program := "ytmpeofjfagdgkaa", sum := "20b982c9bbef71d5f2eb3df4904ade4d519163d041f710630a9b58c968f1d89f", func := "isthmus/isthmuslaw6.UnpackBroken", spec := "unpackBroken", inPlace := ["internal/bytealg.IndexByteString", "internal/bytealg.IndexString"], unfollowed := true, recurses := true, named := ["internal/bytealg.MaxLen"], apart := false, narrowed := true }
def UnpackBrokenUptoSaid : Prop := unpackBrokenUptoRow.holds Try.pinned (OpenSpec.upto unpackBrokenSpec)

/-- 'isthmuslaw6.UnpackNone', WHERE WHAT IT READS IS OF BULK AT MOST 1048576: true; the input reads as it did. -/
def unpackNoneUptoRow : OpenClaim := { program := "ytmpeofjfagdgkaa", sum := "20b982c9bbef71d5f2eb3df4904ade4d519163d041f710630a9b58c968f1d89f", func := "isthmus/isthmuslaw6.UnpackNone", spec := "unpackNone", inPlace := ["internal/bytealg.IndexByteString", "internal/bytealg.IndexString"], unfollowed := true, recurses := true, named := ["internal/bytealg.MaxLen"], apart := false, narrowed := true }
def UnpackNoneUptoSaid : Prop := unpackNoneUptoRow.holds Try.pinned (OpenSpec.upto unpackNoneSpec)

/-- 'isthmuslaw6.UnpackTwo', WHERE WHAT IT READS IS OF BULK AT MOST 1048576: true; the input reads as it did. -/
def unpackTwoUptoRow : OpenClaim := { program := "ytmpeofjfagdgkaa", sum := "20b982c9bbef71d5f2eb3df4904ade4d519163d041f710630a9b58c968f1d89f", func := "isthmus/isthmuslaw6.UnpackTwo", spec := "unpackTwo", inPlace := ["internal/bytealg.IndexByteString", "internal/bytealg.IndexString"], unfollowed := true, recurses := true, named := ["internal/bytealg.MaxLen"], apart := false, narrowed := true }
def UnpackTwoUptoSaid : Prop := unpackTwoUptoRow.holds Try.pinned (OpenSpec.upto unpackTwoSpec)

/-- 'isthmuslaw6.UnpackMost', WHERE WHAT IT READS IS OF BULK AT MOST 1048576: true; the input reads as it did. -/
def unpackMostUptoRow : OpenClaim := { program := "ytmpeofjfagdgkaa", sum := "20b982c9bbef71d5f2eb3df4904ade4d519163d041f710630a9b58c968f1d89f", func := "isthmus/isthmuslaw6.UnpackMost", spec := "unpackMost", inPlace := ["internal/bytealg.IndexByteString", "internal/bytealg.IndexString"], unfollowed := true, recurses := true, named := ["internal/bytealg.MaxLen"], apart := false, narrowed := true }
def UnpackMostUptoSaid : Prop := unpackMostUptoRow.holds Try.pinned (OpenSpec.upto unpackMostSpec)

/-- 'isthmuslaw6.UnpackBack', WHERE WHAT IT READS IS OF BULK AT MOST 1048576: true; the input reads as it did. -/
def unpackBackUptoRow : OpenClaim := { program := "ytmpeofjfagdgkaa", sum := "20b982c9bbef71d5f2eb3df4904ade4d519163d041f710630a9b58c968f1d89f", func := "isthmus/isthmuslaw6.UnpackBack", spec := "unpackBack", inPlace := ["internal/bytealg.IndexByteString", "internal/bytealg.IndexString"], unfollowed := true, recurses := true, named := ["internal/bytealg.MaxLen"], apart := false, narrowed := true }
def UnpackBackUptoSaid : Prop := unpackBackUptoRow.holds Try.pinned (OpenSpec.upto unpackBackSpec)

end Rows
end Go.Proofs.Ytmpeofjfagdgkaa
