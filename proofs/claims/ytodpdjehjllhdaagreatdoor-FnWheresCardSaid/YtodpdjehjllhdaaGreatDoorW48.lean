/- Proved: for every code, the program says of drawn paths and losses what the reference says (where a path goes, whether a place is hurt), and of each part of a small tree that is kept by its way and not hurt, just the same stands where the program says that it goes. -/
import Derived.Test.YtodpdjehjllhdaaGreatDoorW44
import Derived.Test.YtodpdjehjllhdaaGreatDoorW45
import Derived.Test.YtodpdjehjllhdaaGreatDoorW46
import Derived.Test.YtodpdjehjllhdaaGreatDoorW47
set_option linter.unusedVariables false
set_option linter.unusedSimpArgs false
set_option maxRecDepth 100000
set_option maxHeartbeats 20000000
namespace Go.Proofs.YtodpdjehjllhdaaGreatDoor
open Go.RowKit
section
open Go.ChangeShapes Go.WideShapes Go.ChangeAt Go.RowKit
theorem fnWheresCard_holds:Rows.FnWheresCardSaid:=Claim7.holds_tied_plain_at .later [] [.data,.data,.data,.data,.pinned] true (true,"fc80001daf9d8a8410740766b29bf19d4f1bd2fea513bd112ee3731e2a8830c1") false nI (fun _ h=>by cases h) sP (fun _ h=>by cases h) fnWheres_row_tie rfl ⟨rfl,rfl⟩ oU rfl (fun f fn hf hfn=>by obtain rfl:f=4:=Option.some.inj ((show Tryz.prog.funcNamed Rows.fnWheresRow.func=some 4 by kernel_rfl).symm.trans hf) |>.symm;obtain rfl:fn=Tryz.f4:=(Option.some.inj (Tryz.func4.symm.trans hfn)).symm;exact⟨oA,fun j t ht=>by rw[Tryz.params4] at ht;(have hm:t∈[22]:=by simpa using Array.mem_of_getElem? ht);(have hall:([22].all fun u=> !Tryz.prog.wantsStandIn u)=true:=by kernel_rfl);exact(show Tryz.prog.wantsStandIn t=false by simpa using List.all_eq_true.1 hall t hm)⟩) oQ
end
end Go.Proofs.YtodpdjehjllhdaaGreatDoor
