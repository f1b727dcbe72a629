/- Proved: for every code of ways and trees, the program keeps, moves and drops what the reference does; different kept values go to different places; and where nothing is lost all values are kept and none is moved or dropped, else fewer are kept. Condition: the tables of the library stand as the row lists them; the card ties them to the text of the program. -/
import Derived.Test.YtodpdjehjllhdaaGreatDoorK44
import Derived.Test.YtodpdjehjllhdaaGreatDoorK45
import Derived.Test.YtodpdjehjllhdaaGreatDoorK46
import Derived.Test.YtodpdjehjllhdaaGreatDoorK47
set_option linter.unusedVariables false
set_option linter.unusedSimpArgs false
set_option maxRecDepth 100000
set_option maxHeartbeats 20000000
namespace Go.Proofs.YtodpdjehjllhdaaGreatDoor
open Go.RowKit
section
open Go.ChangeShapes Go.WideShapes Go.ChangeAt Go.RowKit
theorem fnKeptsCard_holds:Rows.FnKeptsCardSaid:=Claim7.holds_tied_plain_at .later [] [.data,.data,.data,.data,.pinned] true (true,"fc80001daf9d8a8410740766b29bf19d4f1bd2fea513bd112ee3731e2a8830c1") false oU (fun _ h=>by cases h) ug (fun _ h=>by cases h) fnKepts_row_tie rfl ⟨rfl,rfl⟩ qV rfl (fun f fn hf hfn=>by obtain rfl:f=6:=Option.some.inj ((show Tryz.prog.funcNamed Rows.fnKeptsRow.func=some 6 by kernel_rfl).symm.trans hf) |>.symm;obtain rfl:fn=Tryz.f6:=(Option.some.inj (Tryz.func6.symm.trans hfn)).symm;exact⟨py,fun j t ht=>by rw[Tryz.params6] at ht;(have hm:t∈[22]:=by simpa using Array.mem_of_getElem? ht);(have hall:([22].all fun u=> !Tryz.prog.wantsStandIn u)=true:=by kernel_rfl);exact(show Tryz.prog.wantsStandIn t=false by simpa using List.all_eq_true.1 hall t hm)⟩) qu
end
end Go.Proofs.YtodpdjehjllhdaaGreatDoor
