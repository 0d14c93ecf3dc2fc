/- What every row of this program asks (without the hash's texts). -/
import Derived.Test.YtbbbgpdhdlknjaaG1
import Derived.Test.YtbbbgpdhdlknjaaProg
namespace Go.Proofs.Ytbbbgpdhdlknjaa
set_option linter.unusedVariables false
set_option linter.unusedSimpArgs false
open Go.ChangeShapes Go.WideShapes Go.ChangeAt Go.RowKit Go.Deep

theorem ownKnobNone : ownKnob Try.prog.godebug = none := by kernel_rfl
theorem laidOutTrue : laidOutB Try.prog = true := by kernel_rfl
theorem cellsU8 : Try.prog.cellsOf 5 = 1 := by kernel_rfl
theorem cellsI64 : Try.prog.cellsOf 3 = 1 := by kernel_rfl
theorem cellsU64 : Try.prog.cellsOf 86 = 1 := by kernel_rfl
theorem cellsBytes : Try.prog.cellsOf 29 = 1 := by kernel_rfl

end Go.Proofs.Ytbbbgpdhdlknjaa
