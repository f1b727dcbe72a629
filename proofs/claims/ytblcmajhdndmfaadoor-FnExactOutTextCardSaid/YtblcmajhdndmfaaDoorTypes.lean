/- How the laws' argument types read, at this program's numbers. -/
import Derived.Test.YtblcmajhdndmfaaDoorRow
import Derived.Test.YtblcmajhdndmfaaDoorRows
namespace Go.Proofs.YtblcmajhdndmfaaDoor
open Go.ChangeShapes Go.WideShapes Go.ChangeAt Go.RowKit
set_option linter.unusedVariables false
set_option maxRecDepth 100000

theorem lawOwn : ownKnob Tryd.prog.godebug = none := by kernel_rfl
theorem lawLaid : laidOutB Tryd.prog = true := by kernel_rfl
theorem opensStep : Opens Tryd.prog 101 GStep := opens_step Tryd.underlying101 (by kernel_rfl) (by kernel_rfl) Tryd.underlying3 Tryd.underlying4
theorem opensStepS : Opens Tryd.prog 67 (List GStep) := opens_slice Tryd.underlying67 (by kernel_rfl) (by decide) opensStep
theorem opensLoss : Opens Tryd.prog 69 GLoss := opens_loss Tryd.underlying69 (by kernel_rfl) (by kernel_rfl) Tryd.underlying3 opensStepS
theorem opensLossS : Opens Tryd.prog 33 (List GLoss) := opens_slice Tryd.underlying33 (by kernel_rfl) (by decide) opensLoss
theorem opensByteS : Opens Tryd.prog 32 (List UInt8) := opens_slice Tryd.underlying32 (by kernel_rfl) (by decide) (opens_byte Tryd.underlying5)
theorem opensOut : Opens Tryd.prog 35 GOut := opens_out Tryd.underlying35 (by kernel_rfl) (by kernel_rfl) opensByteS opensLossS Tryd.underlying3
theorem opensOutS : Opens Tryd.prog 22 (List GOut) := opens_slice Tryd.underlying22 (by kernel_rfl) (by decide) opensOut
end Go.Proofs.YtblcmajhdndmfaaDoor
