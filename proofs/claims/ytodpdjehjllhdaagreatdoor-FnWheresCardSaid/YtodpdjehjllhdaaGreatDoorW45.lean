/- Part of a proof: contracts and plain laws. -/
import Derived.Test.YtodpdjehjllhdaaGreatDoorRows
import Derived.ProofKit
import Derived.OpenShut
import Derived.Stop.Joined
import Derived.SevenTiedAt
set_option linter.unusedVariables false
set_option linter.unusedSimpArgs false
set_option maxRecDepth 100000
set_option maxHeartbeats 20000000
namespace Go.Proofs.YtodpdjehjllhdaaGreatDoor
open Go.RowKit
section
open Go.ChangeShapes Go.WideShapes Go.ChangeAt
theorem sP:Rows.fnWheresRow.wfByText (OpenSpec.ofChange Rows.fnWheresSpec)=true:=by
 kernel_rfl
theorem oU:Tryz.prog.mainIs=some (true,"fc80001daf9d8a8410740766b29bf19d4f1bd2fea513bd112ee3731e2a8830c1".toList):=by
 kernel_rfl
end
end Go.Proofs.YtodpdjehjllhdaaGreatDoor
