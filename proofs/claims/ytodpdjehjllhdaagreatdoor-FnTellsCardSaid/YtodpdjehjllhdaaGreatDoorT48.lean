/- Proved: for every code of a way and a tree, each value that the program keeps is found, unchanged and without a loss, where the program says that it goes, and no loss is told at its place. Condition: the tables of the library stand as the row lists them; the card ties them to the text of the program. -/
import Derived.Test.YtodpdjehjllhdaaGreatDoorT44
import Derived.Test.YtodpdjehjllhdaaGreatDoorT45
import Derived.Test.YtodpdjehjllhdaaGreatDoorT46
import Derived.Test.YtodpdjehjllhdaaGreatDoorT47
set_option linter.unusedVariables false
set_option linter.unusedSimpArgs false
set_option maxRecDepth 100000
set_option maxHeartbeats 20000000
namespace Go.Proofs.YtodpdjehjllhdaaGreatDoor
open Go.RowKit
section
open Go.ChangeShapes Go.WideShapes Go.ChangeAt Go.RowKit
theorem fnTellsCard_holds:Rows.FnTellsCardSaid:=Claim7.holds_tied_plain_at .later [] [.data,.data,.data,.data,.pinned] true (true,"fc80001daf9d8a8410740766b29bf19d4f1bd2fea513bd112ee3731e2a8830c1") false oP (fun _ h=>by cases h) tS (fun _ h=>by cases h) fnTells_row_tie rfl ⟨rfl,rfl⟩ qG rfl (fun f fn hf hfn=>by obtain rfl:f=5:=Option.some.inj ((show Tryz.prog.funcNamed Rows.fnTellsRow.func=some 5 by kernel_rfl).symm.trans hf) |>.symm;obtain rfl:fn=Tryz.f5:=(Option.some.inj (Tryz.func5.symm.trans hfn)).symm;exact⟨oI,fun j t ht=>by rw[Tryz.params5] at ht;(have hm:t∈[22]:=by simpa using Array.mem_of_getElem? ht);(have hall:([22].all fun u=> !Tryz.prog.wantsStandIn u)=true:=by kernel_rfl);exact(show Tryz.prog.wantsStandIn t=false by simpa using List.all_eq_true.1 hall t hm)⟩) qI
end
end Go.Proofs.YtodpdjehjllhdaaGreatDoor
