/- Proved: for every code of ways and trees, a tree carried along formats by the program is what the reference carries, the same again along the ways in which nothing is lost, and the last way once more changes nothing. Condition: the tables of the library stand as the row lists them; the card ties them to the text of the program. -/
import Derived.Test.YtodpdjehjllhdaaGreatDoorZ45
import Derived.Test.YtodpdjehjllhdaaGreatDoorZ46
import Derived.Test.YtodpdjehjllhdaaGreatDoorZ47
import Derived.Test.YtodpdjehjllhdaaGreatDoorZ48
set_option linter.unusedVariables false
set_option maxRecDepth 100000
set_option maxHeartbeats 20000000
namespace Go.Proofs.YtodpdjehjllhdaaGreatDoor
open Go.RowKit
section
open Go.ChangeShapes Go.WideShapes Go.ChangeAt Go.RowKit
theorem fnSettlesCard_holds:Rows.FnSettlesCardSaid:=Claim7.holds_tied_plain_at .later [] [.data,.data,.data,.data,.pinned] true (true,"fc80001daf9d8a8410740766b29bf19d4f1bd2fea513bd112ee3731e2a8830c1") false lJ (fun _ h=>by cases h) pn (fun _ h=>by cases h) fnSettles_row_tie rfl ⟨rfl,rfl⟩ mM rfl (fun f fn hf hfn=>by obtain rfl:f=3:=Option.some.inj ((show Tryz.prog.funcNamed Rows.fnSettlesRow.func=some 3 by kernel_rfl).symm.trans hf) |>.symm;obtain rfl:fn=Tryz.f3:=(Option.some.inj (Tryz.func3.symm.trans hfn)).symm;exact⟨lY,fun j t ht=>by rw[Tryz.params3] at ht;(have hm:t∈[22]:=by simpa using Array.mem_of_getElem? ht);(have hall:([22].all fun u=> !Tryz.prog.wantsStandIn u)=true:=by kernel_rfl);exact(show Tryz.prog.wantsStandIn t=false by simpa using List.all_eq_true.1 hall t hm)⟩) nu
end
end Go.Proofs.YtodpdjehjllhdaaGreatDoor
