/- What the laws of prefix share. -/
import Derived.Test.YtbmfigafbilbmaaPfxPlain
import Derived.Test.YtbmfigafbilbmaaAbsRead
import Derived.Test.YtbmfigafbilbmaaAbsprefixSeat
set_option linter.unusedSimpArgs false
set_option linter.unusedVariables false
namespace Go.Proofs.Ytbmfigafbilbmaa
open Go.Abs
set_option maxRecDepth 100000
theorem begun : callW Try.prog Try.T 8 [] AH.empty fun v _ => v = .bool true := callW_true (n := 100) (by kernel_rfl) (fun _ => rfl)
end Go.Proofs.Ytbmfigafbilbmaa
