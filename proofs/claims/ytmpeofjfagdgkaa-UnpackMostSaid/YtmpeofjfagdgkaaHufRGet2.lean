/- The reference's Get. -/
import Derived.Test.YtmpeofjfagdgkaaHufRGet
set_option linter.unusedSimpArgs false
set_option linter.unusedVariables false
namespace Go.Proofs.Ytmpeofjfagdgkaa
open Go.Abs
set_option maxRecDepth 100000
end Go.Proofs.Ytmpeofjfagdgkaa
