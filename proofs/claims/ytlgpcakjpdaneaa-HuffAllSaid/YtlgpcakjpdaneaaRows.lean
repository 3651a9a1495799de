/-
  No cell of these rows narrows 'for every input' (looked for: loops, veiled, ifaces, maps, wideKeys, modest, calm, conditions, laid).
  DERIVED. THE GIVEN ROWS OF THIS SEAT. 8 by the template 'for every input the law returns true; each argument reads behind the call as it read before'; 0 by the template 'total and deterministic' (their statements: YtlgpcakjpdaneaaTotals.lean).
  GIVEN WITH THE SEED: the statements are not yours to turn. If you find one false, say at which input.
  Laid BY PROGRAM, IN A SANDBOX (cutbox-rows.mjs): the forced cells as the released guide's own fill.sh prints them over the translation d76d7507e912730b… (all of the seat's roots in one cut). By AI agents, Wed Nov 11 2026. No macro, syntax, notation, axiom, sorry.
-/
import Derived.Test.YtlgpcakjpdaneaaChecked
import GoSem.Claim
import GoSem.ClaimJoined
import GoSem.ClaimMapViews
import Derived.JoinedTies
import Derived.KernelRfl
namespace Go.Proofs.Ytlgpcakjpdaneaa
/- THE CELL 'sum', in the pinned program and in every row, IS THE sha256 OF THE DUMP (.gsa) THAT YtlgpcakjpdaneaaProg.lean LOADS. Nothing in Lean hashes anything: it is a label: what it is worth is what the hold of that sum in a sandbox is worth. -/
noncomputable def Try.pinned : Pinned := { name := "ytlgpcakjpdaneaa", sum := "d76d7507e912730bf257122f9c81e1eaa9f40d0e2f9f1b4e70edacf86fe34158", checked := Try.checked }
namespace Rows
def none {H : Type} : Left H := { results := [], args := [] }

/-- 'isthmuslaw2.HuffPut': WHATEVER THE INPUT: true; the input reads as it did. -/
def huffPutSpec : ChangeSpec := { name := "huffPut", fn := fun _ => fun
  | [d] => { results := [.lit (.bool true)], args := [d] }
  | _ => none }
def huffPutRow : OpenClaim := { program := "ytlgpcakjpdaneaa", sum := "d76d7507e912730bf257122f9c81e1eaa9f40d0e2f9f1b4e70edacf86fe34158", func := "isthmus/isthmuslaw2.HuffPut", spec := "huffPut", unfollowed := true, recurses := true, apart := false }
def HuffPutSaid : Prop := huffPutRow.holds Try.pinned (OpenSpec.ofChange huffPutSpec)

/-- ITS FALSE NEIGHBOUR: 'it returns false'. Refute it at one input. -/
def huffPutWrong : ChangeSpec := { name := "huffPut", fn := fun _ => fun
  | [d] => { results := [.lit (.bool false)], args := [d] }
  | _ => none }
def HuffPutWrongFalsely : Prop := huffPutRow.holds Try.pinned (OpenSpec.ofChange huffPutWrong)

/-- 'isthmuslaw2.HuffGet': WHATEVER THE INPUT: true; the input reads as it did. -/
def huffGetSpec : ChangeSpec := { name := "huffGet", fn := fun _ => fun
  | [d] => { results := [.lit (.bool true)], args := [d] }
  | _ => none }
def huffGetRow : OpenClaim := { program := "ytlgpcakjpdaneaa", sum := "d76d7507e912730bf257122f9c81e1eaa9f40d0e2f9f1b4e70edacf86fe34158", func := "isthmus/isthmuslaw2.HuffGet", spec := "huffGet", unfollowed := true, recurses := true, apart := false }
def HuffGetSaid : Prop := huffGetRow.holds Try.pinned (OpenSpec.ofChange huffGetSpec)

/-- ITS FALSE NEIGHBOUR: 'it returns false'. Refute it at one input. -/
def huffGetWrong : ChangeSpec := { name := "huffGet", fn := fun _ => fun
  | [d] => { results := [.lit (.bool false)], args := [d] }
  | _ => none }
def HuffGetWrongFalsely : Prop := huffGetRow.holds Try.pinned (OpenSpec.ofChange huffGetWrong)

/-- 'isthmuslaw2.HuffBack': WHATEVER THE INPUT: true; the input reads as it did. -/
def huffBackSpec : ChangeSpec := { name := "huffBack", fn := fun _ => fun
  | [d1, d2] => { results := [.lit (.bool true)], args := [d1, d2] }
  | _ => none }
def huffBackRow : OpenClaim := { program := "ytlgpcakjpdaneaa", sum := "d76d7507e912730bf257122f9c81e1eaa9f40d0e2f9f1b4e70edacf86fe34158", func := "isthmus/isthmuslaw2.HuffBack", spec := "huffBack", unfollowed := true, recurses := true, apart := false }
def HuffBackSaid : Prop := huffBackRow.holds Try.pinned (OpenSpec.ofChange huffBackSpec)

/-- ITS FALSE NEIGHBOUR: 'it returns false'. Refute it at one input. -/
def huffBackWrong : ChangeSpec := { name := "huffBack", fn := fun _ => fun
  | [d1, d2] => { results := [.lit (.bool false)], args := [d1, d2] }
  | _ => none }
def HuffBackWrongFalsely : Prop := huffBackRow.holds Try.pinned (OpenSpec.ofChange huffBackWrong)

/-- 'isthmuslaw2.HuffAll': WHATEVER THE INPUT: true; the input reads as it did. -/
def huffAllSpec : ChangeSpec := { name := "huffAll", fn := fun _ => fun
  | [d] => { results := [.lit (.bool true)], args := [d] }
  | _ => none }
def huffAllRow : OpenClaim := { program := "ytlgpcakjpdaneaa", sum := "d76d7507e912730bf257122f9c81e1eaa9f40d0e2f9f1b4e70edacf86fe34158", func := "isthmus/isthmuslaw2.HuffAll", spec := "huffAll", unfollowed := true, recurses := true, apart := false }
def HuffAllSaid : Prop := huffAllRow.holds Try.pinned (OpenSpec.ofChange huffAllSpec)

/-- ITS FALSE NEIGHBOUR: 'it returns false'. Refute it at one input. -/
def huffAllWrong : ChangeSpec := { name := "huffAll", fn := fun _ => fun
  | [d] => { results := [.lit (.bool false)], args := [d] }
  | _ => none }
def HuffAllWrongFalsely : Prop := huffAllRow.holds Try.pinned (OpenSpec.ofChange huffAllWrong)

/-- 'isthmuslaw2.HuffPad': WHATEVER THE INPUT: true; the input reads as it did. -/
def huffPadSpec : ChangeSpec := { name := "huffPad", fn := fun _ => fun
  | [d] => { results := [.lit (.bool true)], args := [d] }
  | _ => none }
def huffPadRow : OpenClaim := { program := "ytlgpcakjpdaneaa", sum := "d76d7507e912730bf257122f9c81e1eaa9f40d0e2f9f1b4e70edacf86fe34158", func := "isthmus/isthmuslaw2.HuffPad", spec := "huffPad", unfollowed := true, recurses := true, apart := false }
def HuffPadSaid : Prop := huffPadRow.holds Try.pinned (OpenSpec.ofChange huffPadSpec)

/-- ITS FALSE NEIGHBOUR: 'it returns false'. Refute it at one input. -/
def huffPadWrong : ChangeSpec := { name := "huffPad", fn := fun _ => fun
  | [d] => { results := [.lit (.bool false)], args := [d] }
  | _ => none }
def HuffPadWrongFalsely : Prop := huffPadRow.holds Try.pinned (OpenSpec.ofChange huffPadWrong)

/-- 'isthmuslaw2.HuffJoin': WHATEVER THE INPUT: true; the input reads as it did. -/
def huffJoinSpec : ChangeSpec := { name := "huffJoin", fn := fun _ => fun
  | [d] => { results := [.lit (.bool true)], args := [d] }
  | _ => none }
def huffJoinRow : OpenClaim := { program := "ytlgpcakjpdaneaa", sum := "d76d7507e912730bf257122f9c81e1eaa9f40d0e2f9f1b4e70edacf86fe34158", func := "isthmus/isthmuslaw2.HuffJoin", spec := "huffJoin", unfollowed := true, recurses := true, apart := false }
def HuffJoinSaid : Prop := huffJoinRow.holds Try.pinned (OpenSpec.ofChange huffJoinSpec)

/-- ITS FALSE NEIGHBOUR: 'it returns false'. Refute it at one input. -/
def huffJoinWrong : ChangeSpec := { name := "huffJoin", fn := fun _ => fun
  | [d] => { results := [.lit (.bool false)], args := [d] }
  | _ => none }
def HuffJoinWrongFalsely : Prop := huffJoinRow.holds Try.pinned (OpenSpec.ofChange huffJoinWrong)

/-- 'isthmuslaw2.HuffCode': WHATEVER THE INPUT: true; the input reads as it did. -/
def huffCodeSpec : ChangeSpec := { name := "huffCode", fn := fun _ => fun
  | [d] => { results := [.lit (.bool true)], args := [d] }
  | _ => none }
def huffCodeRow : OpenClaim := { program := "ytlgpcakjpdaneaa", sum := "d76d7507e912730bf257122f9c81e1eaa9f40d0e2f9f1b4e70edacf86fe34158", func := "isthmus/isthmuslaw2.HuffCode", spec := "huffCode", unfollowed := true, recurses := true, apart := false }
def HuffCodeSaid : Prop := huffCodeRow.holds Try.pinned (OpenSpec.ofChange huffCodeSpec)

/-- ITS FALSE NEIGHBOUR: 'it returns false'. Refute it at one input. -/
def huffCodeWrong : ChangeSpec := { name := "huffCode", fn := fun _ => fun
  | [d] => { results := [.lit (.bool false)], args := [d] }
  | _ => none }
def HuffCodeWrongFalsely : Prop := huffCodeRow.holds Try.pinned (OpenSpec.ofChange huffCodeWrong)

/-- 'isthmuslaw2.HuffFree': WHATEVER THE INPUT: true; the input reads as it did. -/
def huffFreeSpec : ChangeSpec := { name := "huffFree", fn := fun _ => fun
  | [d1, d2] => { results := [.lit (.bool true)], args := [d1, d2] }
  | _ => none }
def huffFreeRow : OpenClaim := { program := "ytlgpcakjpdaneaa", sum := "d76d7507e912730bf257122f9c81e1eaa9f40d0e2f9f1b4e70edacf86fe34158", func := "isthmus/isthmuslaw2.HuffFree", spec := "huffFree", unfollowed := true, recurses := true, apart := false }
def HuffFreeSaid : Prop := huffFreeRow.holds Try.pinned (OpenSpec.ofChange huffFreeSpec)

/-- ITS FALSE NEIGHBOUR: 'it returns false'. Refute it at one input. -/
def huffFreeWrong : ChangeSpec := { name := "huffFree", fn := fun _ => fun
  | [d1, d2] => { results := [.lit (.bool false)], args := [d1, d2] }
  | _ => none }
def HuffFreeWrongFalsely : Prop := huffFreeRow.holds Try.pinned (OpenSpec.ofChange huffFreeWrong)

/- THE SECOND FORM. 'bulk': how many values and letters a reading holds, each counted each time it is reached (what is shared counts as often as it is met; a slice's spare places count too). A statement '..UptoSaid' is the law's where the arguments, and the package variables that the reading takes, are together of bulk at most 1048576: NARROWER than '..Said'. Prove '..Said' where nothing that the law and all that it calls make is longer than what came in: it says more and counts as full. Else prove '..UptoSaid'. A law counts once. -/
mutual
def uptoBulk {H : Type} : DataW H → Nat
  | .lit (.string bytes) => bytes.length + 1
  | .lit _ => 1
  | .nil => 1
  | .ptr d => uptoBulk d + 1
  | .slice elems spare => uptoBulkAll elems + uptoBulkAll spare + 1
  | .agg parts => uptoBulkAll parts + 1
  | .iface _ d => uptoBulk d + 1
  | .map entries => uptoBulkEntries entries + 1
  | .held _ => 1
def uptoBulkAll {H : Type} : List (DataW H) → Nat
  | [] => 0
  | d :: r => uptoBulk d + uptoBulkAll r
def uptoBulkEntries {H : Type} : List (Lit × DataW H) → Nat
  | [] => 0
  | x :: r => uptoBulkEntry x + uptoBulkEntries r
def uptoBulkEntry {H : Type} : Lit × DataW H → Nat
  | (.string bytes, d) => bytes.length + uptoBulk d + 1
  | (_, d) => uptoBulk d + 1
 end
def uptoSmall : (H : Type) → List (DataW H) → Bool := fun _ ds => decide (uptoBulkAll ds ≤ 1048576)
def OpenSpec.upto (s : _root_.Go.ChangeSpec) : _root_.Go.OpenSpec := { _root_.Go.OpenSpec.ofChange s with cond := some uptoSmall }

/-- 'isthmuslaw2.HuffPut', WHERE WHAT IT READS IS OF BULK AT MOST 1048576: true; the input reads as it did. -/
def huffPutUptoRow : OpenClaim := { program := "ytlgpcakjpdaneaa", sum := "d76d7507e912730bf257122f9c81e1eaa9f40d0e2f9f1b4e70edacf86fe34158", func := "isthmus/isthmuslaw2.HuffPut", spec := "huffPut", unfollowed := true, recurses := true, apart := false, narrowed := true }
def HuffPutUptoSaid : Prop := huffPutUptoRow.holds Try.pinned (OpenSpec.upto huffPutSpec)

/-- 'isthmuslaw2.HuffGet', WHERE WHAT IT READS IS OF BULK AT MOST 1048576: true; the input reads as it did. -/
def huffGetUptoRow : OpenClaim := { program := "ytlgpcakjpdaneaa", sum := "d76d7507e912730bf257122f9c81e1eaa9f40d0e2f9f1b4e70edacf86fe34158", func := "isthmus/isthmuslaw2.HuffGet", spec := "huffGet", unfollowed := true, recurses := true, apart := false, narrowed := true }
def HuffGetUptoSaid : Prop := huffGetUptoRow.holds Try.pinned (OpenSpec.upto huffGetSpec)

/-- 'isthmuslaw2.HuffBack', WHERE WHAT IT READS IS OF BULK AT MOST 1048576: true; the input reads as it did. -/
def huffBackUptoRow : OpenClaim := { program := "ytlgpcakjpdaneaa", sum := "d76d7507e912730bf257122f9c81e1eaa9f40d0e2f9f1b4e70edacf86fe34158", func := "isthmus/isthmuslaw2.HuffBack", spec := "huffBack", unfollowed := true, recurses := true, apart := false, narrowed := true }
def HuffBackUptoSaid : Prop := huffBackUptoRow.holds Try.pinned (OpenSpec.upto huffBackSpec)

/-- 'isthmuslaw2.HuffAll', WHERE WHAT IT READS IS OF BULK AT MOST 1048576: true; the input reads as it did. -/
def huffAllUptoRow : OpenClaim := { program := "ytlgpcakjpdaneaa", sum := "d76d7507e912730bf257122f9c81e1eaa9f40d0e2f9f1b4e70edacf86fe34158", func := "isthmus/isthmuslaw2.HuffAll", spec := "huffAll", unfollowed := true, recurses := true, apart := false, narrowed := true }
def HuffAllUptoSaid : Prop := huffAllUptoRow.holds Try.pinned (OpenSpec.upto huffAllSpec)

/-- 'isthmuslaw2.HuffPad', WHERE WHAT IT READS IS OF BULK AT MOST 1048576: true; the input reads as it did. -/
def huffPadUptoRow : OpenClaim := { program := "ytlgpcakjpdaneaa", sum := "d76d7507e912730bf257122f9c81e1eaa9f40d0e2f9f1b4e70edacf86fe34158", func := "isthmus/isthmuslaw2.HuffPad", spec := "huffPad", unfollowed := true, recurses := true, apart := false, narrowed := true }
def HuffPadUptoSaid : Prop := huffPadUptoRow.holds Try.pinned (OpenSpec.upto huffPadSpec)

/-- 'isthmuslaw2.HuffJoin', WHERE WHAT IT READS IS OF BULK AT MOST 1048576: true; the input reads as it did. -/
def huffJoinUptoRow : OpenClaim := { program := "ytlgpcakjpdaneaa", sum := "d76d7507e912730bf257122f9c81e1eaa9f40d0e2f9f1b4e70edacf86fe34158", func := "isthmus/isthmuslaw2.HuffJoin", spec := "huffJoin", unfollowed := true, recurses := true, apart := false, narrowed := true }
def HuffJoinUptoSaid : Prop := huffJoinUptoRow.holds Try.pinned (OpenSpec.upto huffJoinSpec)

/-- 'isthmuslaw2.HuffCode', WHERE WHAT IT READS IS OF BULK AT MOST 1048576: true; the input reads as it did. -/
def huffCodeUptoRow : OpenClaim := { program := "ytlgpcakjpdaneaa", sum := "d76d7507e912730bf257122f9c81e1eaa9f40d0e2f9f1b4e70edacf86fe34158", func := "isthmus/isthmuslaw2.HuffCode", spec := "huffCode", unfollowed := true, recurses := true, apart := false, narrowed := true }
def HuffCodeUptoSaid : Prop := huffCodeUptoRow.holds Try.pinned (OpenSpec.upto huffCodeSpec)

/-- 'isthmuslaw2.HuffFree', WHERE WHAT IT READS IS OF BULK AT MOST 1048576: true; the input reads as it did. -/
def huffFreeUptoRow : OpenClaim := { program := "ytlgpcakjpdaneaa", sum := "d76d7507e912730bf257122f9c81e1eaa9f40d0e2f9f1b4e70edacf86fe34158", func := "isthmus/isthmuslaw2.HuffFree", spec := "huffFree", unfollowed := true, recurses := true, apart := false, narrowed := true }
def HuffFreeUptoSaid : Prop := huffFreeUptoRow.holds Try.pinned (OpenSpec.upto huffFreeSpec)

end Rows
end Go.Proofs.Ytlgpcakjpdaneaa
