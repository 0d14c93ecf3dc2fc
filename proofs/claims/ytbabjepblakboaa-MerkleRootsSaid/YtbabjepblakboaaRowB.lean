/- What every row of this program asks. -/
import Derived.Test.YtbabjepblakboaaBase
import Derived.Test.YtbabjepblakboaaRowKit
import Derived.Test.YtbabjepblakboaaOpen
namespace Go.Proofs.Ytbabjepblakboaa
set_option linter.unusedVariables false
set_option linter.unusedSimpArgs false
open Go.ChangeShapes Go.WideShapes Go.ChangeAt Go.RowKit Go.Deep

theorem ownKnobNone : ownKnob Try.prog.godebug = none := by kernel_rfl
theorem laidOutTrue : laidOutB Try.prog = true := by kernel_rfl
theorem cellsU8 : Try.prog.cellsOf 5 = 1 := by kernel_rfl
theorem cellsHash : Try.prog.cellsOf 24 = 32 := by kernel_rfl
theorem cellsI64 : Try.prog.cellsOf 3 = 1 := by kernel_rfl
theorem cellsU64 : Try.prog.cellsOf 25 = 1 := by kernel_rfl
theorem cellsBytes : Try.prog.cellsOf 42 = 1 := by kernel_rfl

end Go.Proofs.Ytbabjepblakboaa
