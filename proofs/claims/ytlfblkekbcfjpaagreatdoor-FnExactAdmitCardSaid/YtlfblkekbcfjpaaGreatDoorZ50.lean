/- Proved: for all arguments the program's Admit reads what the reference's reads, with the same code, leaves its arguments as they were, and returns a tree that it shares with nothing else. Condition: the library's tables stand as the row lists them; the card ties them to the program's text. -/
import Derived.Test.YtlfblkekbcfjpaaGreatDoorZ49
import Derived.Test.YtlfblkekbcfjpaaGreatDoorCards
import Derived.Test.YtlfblkekbcfjpaaGreatDoorTie
set_option linter.unusedVariables false
set_option linter.unusedSimpArgs false
namespace Go.Proofs.YtlfblkekbcfjpaaGreatDoor
open Go.ChangeShapes Go.WideShapes Go.ChangeAt Go.RowKit
set_option maxRecDepth 100000
theorem fnExactAdmit_holds : Rows.FnExactAdmitSaid :=
 OpenClaim.holds_of_wide 3 Tryz.f3 rfl rfl rfl rfl rfl rfl rfl ⟨rfl, rfl, rfl, rfl, rfl⟩ rfl rfl rfl rfl rfl (by kernel_rfl) Tryz.func3 fnExactAdmit_closed
  (of_decide_eq_true (by kernel_rfl)) (by unfold Func.isWrapper; first | (rw [if_pos (by decide +kernel)]; kernel_rfl) | (rw [if_neg (by decide +kernel)]; exact ⟨rfl, rfl⟩))
  (fun os started H enc _ => fnExactAdmit_lifted os started H enc)
theorem fnExactAdmitCard_holds : Rows.FnExactAdmitCardSaid :=
 Claim7.holds_tied_plain_at .later [] [.data, .data, .data, .data, .sentinel, .sentinel, .pinned, .pinned] true (true, "10db81089f1436b1db5a8aaae569049419fb7eb0ab5a93629fa22f588286d222") true
  fnExactAdmit_holds (fun _ h => by cases h) fnExactAdmit_wf (fun _ h => by cases h) fnExactAdmit_row_tie rfl ⟨rfl, rfl⟩ fnExactAdmit_main rfl
  (fun f fn hf hfn => by
   obtain rfl : f = 3 := Option.some.inj ((show Tryz.prog.funcNamed Rows.fnExactAdmitRow.func = some 3 by kernel_rfl).symm.trans hf) |>.symm
   obtain rfl : fn = Tryz.f3 := (Option.some.inj (Tryz.func3.symm.trans hfn)).symm
   exact ⟨fnExactAdmit_looks, fun j t ht => by
    rw [Tryz.params3] at ht
    have hm : t ∈ [3, 22, 24] := by simpa using Array.mem_of_getElem? ht
    have hall : ([3, 22, 24].all fun u => !Tryz.prog.wantsStandIn u) = true := by kernel_rfl
    exact (show Tryz.prog.wantsStandIn t = false by simpa using List.all_eq_true.1 hall t hm)⟩)
  fnExactAdmit_goes
end Go.Proofs.YtlfblkekbcfjpaaGreatDoor
