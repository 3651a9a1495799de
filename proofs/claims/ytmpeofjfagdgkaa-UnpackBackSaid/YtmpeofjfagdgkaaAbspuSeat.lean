/- What the seat's statements share: facts of the program, by reckoning. -/
import Derived.Test.YtmpeofjfagdgkaaAbsA
import Derived.Test.YtmpeofjfagdgkaaAbsTpu
import Derived.Test.YtmpeofjfagdgkaaRows
import Derived.KernelRfl
namespace Go.Proofs.Ytmpeofjfagdgkaa
open Go.Abs Go.RowKit Go.ChangeShapes
set_option maxRecDepth 100000
theorem own : ownKnob Try.prog.godebug = none := by kernel_rfl
theorem laidOut : laidOutB Try.prog = true := by kernel_rfl
theorem mixed : Try.prog.follows .mixedOrders = true := by kernel_rfl
theorem tok : TOk Try.prog Try.T := TOk_of (l := Try.tlist) (by kernel_rfl)
theorem fok : FOk Try.prog := FOk_of (by kernel_rfl)
end Go.Proofs.Ytmpeofjfagdgkaa
