/- How the laws' argument types read, at this program's numbers. -/
import Derived.Test.YtblcmajhdndmfaaRow
import Derived.Test.YtblcmajhdndmfaaRows
namespace Go.Proofs.Ytblcmajhdndmfaa
open Go.ChangeShapes Go.WideShapes Go.ChangeAt Go.RowKit
set_option linter.unusedVariables false
set_option maxRecDepth 100000

theorem lawOwn : ownKnob Try.prog.godebug = none := by kernel_rfl
theorem lawLaid : laidOutB Try.prog = true := by kernel_rfl
theorem opensStep : Opens Try.prog 161 GStep := opens_step Try.underlying161 (by kernel_rfl) (by kernel_rfl) Try.underlying3 Try.underlying4
theorem opensStepS : Opens Try.prog 102 (List GStep) := opens_slice Try.underlying102 (by kernel_rfl) (by decide) opensStep
theorem opensLoss : Opens Try.prog 104 GLoss := opens_loss Try.underlying104 (by kernel_rfl) (by kernel_rfl) Try.underlying3 opensStepS
theorem opensLossS : Opens Try.prog 23 (List GLoss) := opens_slice Try.underlying23 (by kernel_rfl) (by decide) opensLoss
theorem opensByteS : Opens Try.prog 22 (List UInt8) := opens_slice Try.underlying22 (by kernel_rfl) (by decide) (opens_byte Try.underlying5)
theorem opensOut : Opens Try.prog 25 GOut := opens_out Try.underlying25 (by kernel_rfl) (by kernel_rfl) opensByteS opensLossS Try.underlying3
end Go.Proofs.Ytblcmajhdndmfaa
