/- How the laws' argument types read, at this program's numbers. -/
import Derived.Test.YtiglgjginjbfoaaRow
import Derived.Test.YtiglgjginjbfoaaRows
namespace Go.Proofs.Ytiglgjginjbfoaa
open Go.ChangeShapes Go.WideShapes Go.ChangeAt Go.RowKit
set_option linter.unusedVariables false

theorem lawOwn : ownKnob Try.prog.godebug = none := by kernel_rfl
theorem lawLaid : laidOutB Try.prog = true := by kernel_rfl
theorem opensStep : Opens Try.prog 60 GStep := opens_step Try.underlying60 (by kernel_rfl) (by kernel_rfl) Try.underlying3 Try.underlying4
theorem opensStepS : Opens Try.prog 23 (List GStep) := opens_slice Try.underlying23 (by kernel_rfl) (by decide) opensStep
theorem opensLoss : Opens Try.prog 53 GLoss := opens_loss Try.underlying53 (by kernel_rfl) (by kernel_rfl) Try.underlying3 opensStepS
theorem opensLossS : Opens Try.prog 22 (List GLoss) := opens_slice Try.underlying22 (by kernel_rfl) (by decide) opensLoss
theorem opensByteS : Opens Try.prog 34 (List UInt8) := opens_slice Try.underlying34 (by kernel_rfl) (by decide) (opens_byte Try.underlying5)
theorem opensOut : Opens Try.prog 36 GOut := opens_out Try.underlying36 (by kernel_rfl) (by kernel_rfl) opensByteS opensLossS Try.underlying3
theorem opensOutS : Opens Try.prog 44 (List GOut) := opens_slice Try.underlying44 (by kernel_rfl) (by decide) opensOut
end Go.Proofs.Ytiglgjginjbfoaa
