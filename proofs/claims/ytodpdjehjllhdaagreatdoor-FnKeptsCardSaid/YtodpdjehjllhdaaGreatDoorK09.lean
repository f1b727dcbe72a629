/- Part of a proof: contracts and plain laws. -/
import Derived.Test.YtodpdjehjllhdaaGreatDoorK08
import Derived.Laws.StructEq
set_option linter.unusedVariables false
set_option linter.unusedSimpArgs false
set_option maxRecDepth 100000
set_option maxHeartbeats 20000000
namespace Go.Proofs.YtodpdjehjllhdaaGreatDoor
open Go.RowKit
theorem cf(way:Int)(hw:1≤way∧way≤4)(w:World):Calls Tryz.prog 147 #[.int .i64 way] w (j2 w (.bool (aV way))):=by
 have h4:way=1∨way=2∨way=3∨way=4:=by omega
 clear hw;rcases h4 with rfl|rfl|rfl|rfl;all_goals go_enter Tryz.func147,Tryz.ntmps147;go_wp2_with fail;go_ret;exact⟨rfl,rfl⟩
theorem ma(f k n x:Int)(s:ByteArray)(A:Option Addr)(c:Nat)(w:World)(hf:f=1∨f=2∨f=3∨f=4)(hk:tQ f k)(hI:bC ⟨k,n,x,s,[]⟩)(hs:s.size≤1048576)(hx:SA w ([]:List aa) A c):Calls Tryz.prog 238 #[.int .i64 f,.agg #[.int .i64 k,.int .i64 n,.int .i64 x,.string s,.slice A 0 c]] w (ix w (⟨k,n,x,s,[]⟩:aa) (.int .i64 0)):=by
 have B0:=Ad (ab (ab (ae w) (.cells #[.int .i64 k,.int .i64 n,.int .i64 x,.string s,.slice A 0 c] 27)) (.cells #[.int .i64 0,.int .i64 0,.int .i64 0,.string .empty,.slice none 0 0] 27));have Z0:=Ad (aj.at (w:=w.alloc (.cells #[.int .i64 k,.int .i64 n,.int .i64 x,.string s,.slice A 0 c] 27)) (g:=w.heap.size+1) (t:=27) (cs:=#[.int .i64 0,.int .i64 0,.int .i64 0,.string .empty,.slice none 0 0]) (by simp));have HH:=Ad (Ac hI (Ac hs hx));clear hI hs hx;unfold tQ at hk;cases b3:(k==3)<;>cases b4:(k==4)<;>cases b5:(k==5)<;>cases b6:(k==6)<;>cases b8:(k==8)<;>rcases hf with rfl|rfl|rfl|rfl;all_goals try(exfalso;simp only[beq_iff_eq,beq_eq_false_iff_ne,ne_eq] at b3 b4 b5 b6 b8;omega)
 all_goals
  clear hk;go_enter Tryz.func238,Tryz.ntmps238;go_wp2_with fail;try(refine(cf _ (by omega) _).mono ?_;rintro e w0 ⟨rfl,rfl⟩;(first|rw[show aV 2=false from rfl]|rw[show aV 3=false from rfl]);go_wp2_with fail)
  refine(jv ⟨k,n,x,s,[]⟩ A c _ (by rw[au];simp[bulkVals];exact HH.out.2.1) HH.out.1 (HH.out.2.2.below B0.out)).mono ?_;rintro e w1 ⟨A1,c1,rfl,hsf,hb⟩;have Z1:=Ad (Z0.out.below hb);have HB:=Ad (Ac (ai B0.out hb) hsf);clear hb hsf;obtain⟨f0,f1,f2,f3,f4,p0,p1,p2,p3,p4,hzz⟩:=Z1.out.z5;go_wp2_with fail;refine bodyPost_ret (v:=.tuple #[.agg #[.int .i64 k,.int .i64 n,.int .i64 x,.string s,.slice A1 0 c1],.int .i64 0]) (by simp[results,Tryz.results238,go_sem, *]) rfl ?_;refine⟨A1,c1,rfl,?_,cz HB.out.1 (by omega) _ _ _ _ _⟩;exact(SB.bJ HB.out.2.sb (by simp) _ _ _ _ _).mono (by simp;omega)
theorem mb(f k n x:Int)(s:ByteArray)(A:Option Addr)(c:Nat)(w:World)(hk:k=5∧(f=1∨f=4))(hI:bC ⟨k,n,x,s,[]⟩)(hs:s.size≤1048576)(hx:SA w ([]:List aa) A c):Calls Tryz.prog 238 #[.int .i64 f,.agg #[.int .i64 k,.int .i64 n,.int .i64 x,.string s,.slice A 0 c]] w (ix w i6 (.int .i64 4)):=by
 have B0:=Ad (ab (ab (ae w) (.cells #[.int .i64 k,.int .i64 n,.int .i64 x,.string s,.slice A 0 c] 27)) (.cells #[.int .i64 0,.int .i64 0,.int .i64 0,.string .empty,.slice none 0 0] 27));have Z0:=Ad (aj.at (w:=w.alloc (.cells #[.int .i64 k,.int .i64 n,.int .i64 x,.string s,.slice A 0 c] 27)) (g:=w.heap.size+1) (t:=27) (cs:=#[.int .i64 0,.int .i64 0,.int .i64 0,.string .empty,.slice none 0 0]) (by simp));have HH:=Ad (Ac hI (Ac hs hx));clear hI hs hx;rcases hk with⟨rfl,rfl|rfl⟩
 all_goals
  go_enter Tryz.func238,Tryz.ntmps238;go_wp2_with fail;try(refine(cf _ (by omega) _).mono ?_;rintro e w0 ⟨rfl,rfl⟩;(first|rw[show aV 1=true from rfl]|rw[show aV 4=true from rfl]);go_wp2_with fail)
  refine bodyPost_ret (v:=.tuple #[.agg #[.int .i64 1,.int .i64 0,.int .i64 0,.string {data:=#[]},.slice none 0 0],.int .i64 4]) (by simp[results,Tryz.results238,go_sem, *]) rfl ?_;exact⟨none,0,rfl,SB.nil _ _,by first|exact ab (ab (ae w) _) _|exact cz B0.out (by omega) _ _ _ _ _⟩
theorem nf(f k n x:Int)(s:ByteArray)(A:Option Addr)(c:Nat)(w:World)(hk:k=8∧(f=1∨f=4))(hI:bC ⟨k,n,x,s,[]⟩)(hs:s.size≤1048576)(hx:SA w ([]:List aa) A c):Calls Tryz.prog 238 #[.int .i64 f,.agg #[.int .i64 k,.int .i64 n,.int .i64 x,.string s,.slice A 0 c]] w (ix w (jm (ng s)) (.int .i64 5)):=by
 have B0:=Ad (ab (ab (ae w) (.cells #[.int .i64 k,.int .i64 n,.int .i64 x,.string s,.slice A 0 c] 27)) (.cells #[.int .i64 0,.int .i64 0,.int .i64 0,.string .empty,.slice none 0 0] 27));have Z0:=Ad (aj.at (w:=w.alloc (.cells #[.int .i64 k,.int .i64 n,.int .i64 x,.string s,.slice A 0 c] 27)) (g:=w.heap.size+1) (t:=27) (cs:=#[.int .i64 0,.int .i64 0,.int .i64 0,.string .empty,.slice none 0 0]) (by simp));have HH:=Ad (Ac hI (Ac hs hx));clear hI hs hx;rcases hk with⟨rfl,rfl|rfl⟩
 all_goals
  go_enter Tryz.func238,Tryz.ntmps238;go_wp2_with fail;try(refine(cf _ (by omega) _).mono ?_;rintro e w0 ⟨rfl,rfl⟩;(first|rw[show aV 1=true from rfl]|rw[show aV 4=true from rfl]);go_wp2_with fail)
  refine(mR s _ HH.out.2.1).mono ?_;rintro e w1 ⟨rfl,hb⟩;have Z1:=Ad (Z0.out.below hb);have HB:=Ad (ai B0.out hb);clear hb;go_wp2_with fail;refine(iz (ng s) _).mono ?_;rintro e w2 ⟨rfl,hb⟩;have Z2:=Ad (Z1.out.below hb);have HB2:=Ad (ai HB.out hb);clear hb;obtain⟨f0,f1,f2,f3,f4,p0,p1,p2,p3,p4,hzz⟩:=Z2.out.z5;unfold aX;go_wp2_with fail;refine bodyPost_ret (v:=.tuple #[.agg #[.int .i64 7,.int .i64 0,.int .i64 0,.string (ng s),.slice none 0 0],.int .i64 5]) (by simp[results,Tryz.results238,go_sem, *]) rfl ?_;exact⟨none,0,rfl,SB.nil _ _,cz HB2.out (by omega) _ _ _ _ _⟩
theorem mP(f k n x:Int)(s:ByteArray)(A:Option Addr)(c:Nat)(w:World)(hk:k=4∧f=1)(hok:bg n x=true)(hI:bC ⟨k,n,x,s,[]⟩)(hs:s.size≤1048576)(hx:SA w ([]:List aa) A c):Calls Tryz.prog 238 #[.int .i64 f,.agg #[.int .i64 k,.int .i64 n,.int .i64 x,.string s,.slice A 0 c]] w (ix w (bZ (aI n x).1 (aI n x).2) (.int .i64 1)):=by
 have B0:=Ad (ab (ab (ae w) (.cells #[.int .i64 k,.int .i64 n,.int .i64 x,.string s,.slice A 0 c] 27)) (.cells #[.int .i64 0,.int .i64 0,.int .i64 0,.string .empty,.slice none 0 0] 27));have Z0:=Ad (aj.at (w:=w.alloc (.cells #[.int .i64 k,.int .i64 n,.int .i64 x,.string s,.slice A 0 c] 27)) (g:=w.heap.size+1) (t:=27) (cs:=#[.int .i64 0,.int .i64 0,.int .i64 0,.string .empty,.slice none 0 0]) (by simp));have HH:=Ad (Ac hI (Ac hs hx));clear hI hs hx;have HK:=Ad hok;clear hok;obtain⟨rfl,rfl⟩:=hk;go_enter Tryz.func238,Tryz.ntmps238;go_wp2_with fail;refine(fT n x _ HK.out).mono ?_;rintro e w1 ⟨rfl,hb⟩;unfold nN;have Z1:=Ad (Z0.out.below hb);have HB:=Ad (ai B0.out hb);clear hb;go_wp2_with fail;refine(lq (aI n x).1 (aI n x).2 _).mono ?_;rintro e w2 ⟨rfl,hb⟩;have Z2:=Ad (Z1.out.below hb);have HB2:=Ad (ai HB.out hb);clear hb;obtain⟨f0,f1,f2,f3,f4,p0,p1,p2,p3,p4,hzz⟩:=Z2.out.z5;unfold aX;obtain⟨u,hu⟩: ∃u,u=bZ (aI n x).1 (aI n x).2:=⟨_,rfl⟩;have hul:u.l=[]∧u.s={data:=#[]}:=by rw[hu];unfold bZ;split<;>exact⟨rfl,rfl⟩
 rw[←hu];have HU:=Ad (Ac hul hu);clear hul hu;go_wp2_with fail;refine bodyPost_ret (v:=.tuple #[.agg #[.int .i64 u.kind,.int .i64 u.n,.int .i64 u.x,.string {data:=#[]},.slice none 0 0],.int .i64 1]) (by simp[results,Tryz.results238,go_sem, *]) rfl ?_;rw[←HU.out.2];refine⟨none,0,?_,?_,cz HB2.out (by omega) _ _ _ _ _⟩;·unfold eL;rw[HU.out.1.1,HU.out.1.2];rfl
 ·rw[HU.out.1.1];exact SB.nil _ _
theorem lK(f k n x:Int)(s:ByteArray)(A:Option Addr)(c:Nat)(w:World)(hk:sV f k)(hok:aZ n x=true)(hI:bC ⟨k,n,x,s,[]⟩)(hs:s.size≤1048576)(hx:SA w ([]:List aa) A c):Calls Tryz.prog 238 #[.int .i64 f,.agg #[.int .i64 k,.int .i64 n,.int .i64 x,.string s,.slice A 0 c]] w (ix w (aD n x).1 (.int .i64 (aD n x).2)):=by
 have B0:=Ad (ab (ab (ae w) (.cells #[.int .i64 k,.int .i64 n,.int .i64 x,.string s,.slice A 0 c] 27)) (.cells #[.int .i64 0,.int .i64 0,.int .i64 0,.string .empty,.slice none 0 0] 27));have Z0:=Ad (aj.at (w:=w.alloc (.cells #[.int .i64 k,.int .i64 n,.int .i64 x,.string s,.slice A 0 c] 27)) (g:=w.heap.size+1) (t:=27) (cs:=#[.int .i64 0,.int .i64 0,.int .i64 0,.string .empty,.slice none 0 0]) (by simp));have HH:=Ad (Ac hI (Ac hs hx));clear hI hs hx;have HK:=Ad hok;clear hok;rcases hk with⟨rfl,rfl⟩|⟨rfl,rfl|rfl|rfl⟩
 all_goals
  go_enter Tryz.func238,Tryz.ntmps238;go_wp2_with fail;refine(qp _ n x s A 0 c _ HK.out).mono ?_;rintro e w1 ⟨rfl,hb⟩;have Z1:=Ad (Z0.out.below hb);have HB:=Ad (ai B0.out hb);clear hb;obtain⟨f0,f1,f2,f3,f4,p0,p1,p2,p3,p4,hzz⟩:=Z1.out.z5;unfold aX;go_wp2_with fail;refine bodyPost_ret (v:=.tuple #[.agg #[.int .i64 (aD n x).1.kind,.int .i64 (aD n x).1.n,.int .i64 (aD n x).1.x,.string {data:=#[]},.slice none 0 0],.int .i64 (aD n x).2]) (by simp[results,Tryz.results238,go_sem, *]) rfl ?_;refine⟨none,0,?_,?_,cz HB.out (by omega) _ _ _ _ _⟩;·unfold eL aD;split<;>rfl
  ·have:(aD n x).1.l=[]:=by unfold aD;split<;>rfl
   rw[this];exact SB.nil _ _
theorem iu(way:Int)(hw:1≤way∧way≤4)(v:aa)(A:Option Addr)(c:Nat)(w:World)(hI:bC v)(hl:v.l=[])(hp:qN v.kind v.n v.x v.s)(hx:SA w v.l A c):Calls Tryz.prog 238 #[.int .i64 way,.agg #[.int .i64 v.kind,.int .i64 v.n,.int .i64 v.x,.string v.s,.slice A v.l.length c]] w (ix w (cB way v).1 (.int .i64 (cB way v).2)):=by
 obtain⟨k,n,x,s,l⟩:=v;simp only at hl hp hx;subst hl;obtain⟨h3,h6,h4,hs⟩:=hp;have hf:way=1∨way=2∨way=3∨way=4:=by omega
 rcases pR (k:=k) hf with hk|hk|hk|hk|hk;·rw[oD hk hf];exact ma way k n x s A c w hf hk hI hs hx
 ·rw[nZ hk];exact lK way k n x s A c w hk (by rcases hk with h|h;exact h3 h.1;exact h6 h.1) hI hs hx
 ·have h:=mP way k n x s A c w hk (h4 hk.1) hI hs hx;obtain⟨rfl,rfl⟩:=hk;exact h
 ·have h:=mb way k n x s A c w hk hI hs hx;obtain⟨rfl,rfl|rfl⟩:=hk<;>exact h
 ·have h:=nf way k n x s A c w hk hI hs hx;obtain⟨rfl,rfl|rfl⟩:=hk<;>exact h
def fV(w:World)(v:Value)(e:Ending)(w':World):Prop:=e=.returned v∧ ∃n,w'=w.drewN n
theorem fV.ret{w w':World}{v:Value}{e:Ending}(h:fV w v e w'):bN w v e w':=by
 obtain⟨h1,n,rfl⟩:=h;exact⟨h1,below_drewN (ae w) n⟩
theorem yN{P:Program}{f:FuncId}{args:Array Value}{w:World}{v:Value}(h: ∀n,Calls P f args (w.drewN n) (fV (w.drewN n) v))(n:Nat):Calls P f args (w.drewN n) fun e w''=>e=.returned v∧ ∃m,w''=w.drewN m:=Calls.quiet_of (h n)
theorem jS(w:World)(a b:Nat): ∃n,(w.drewN a).drewN b=w.drewN n:=⟨a+b,by rw[World.drewN_drewN]⟩
theorem tE:Tryz.prog.underlying 86=some (.struct (Tryz.prog.fieldsOf 86)):=by
 kernel_rfl
theorem vG:Tryz.prog.stoodInHeld 86=false:=by
 kernel_rfl
theorem rA(x y:GStep)(w:World):(binOp .neq 86 (.agg #[.int .i64 x.at_,.bool x.name]) (.agg #[.int .i64 y.at_,.bool y.name])).run Tryz.prog w=.ok (.bool (!(decide (x=y)))) w:=by
 have e:decide (x=y)=(decide (x.at_=y.at_)&&decide (x.name=y.name)):=by cases x;cases y;simp
 rw[e];generalize x.at_=a;generalize y.at_=b;generalize x.name=m;generalize y.name=n;simp only[binOp];simp[Op.equal,Op.maxDepth,run_equalIn_struct w 9999 86 _ _ tE vG,go_sem];by_cases h1:a=b<;>by_cases h2:m=n<;>simp[h1,h2]
theorem dm{x y:GStep}(h:x=y)(w:World):(binOp .neq 86 (.agg #[.int .i64 x.at_,.bool x.name]) (.agg #[.int .i64 y.at_,.bool y.name])).run Tryz.prog w=.ok (.bool false) w:=by
 rw[rA,decide_eq_true h];rfl
theorem cS{x y:GStep}(h:x≠y)(w:World):(binOp .neq 86 (.agg #[.int .i64 x.at_,.bool x.name]) (.agg #[.int .i64 y.at_,.bool y.name])).run Tryz.prog w=.ok (.bool true) w:=by
 rw[rA,decide_eq_false h];rfl
theorem dY(xs ys:List GStep)(A A':Option Addr)(c c':Nat)(w:World)(hx:SA w xs A c)(hy:SA w ys A' c'):Calls Tryz.prog 96 #[.slice A xs.length c,.slice A' ys.length c'] w (fV w (.bool (decide (xs=ys)))):=by
 obtain⟨r,hr⟩: ∃r,r=decide (xs=ys):=⟨_,rfl⟩;rw[←hr];have R:=Ad hr;clear hr;have hl:xs.length≤9223372036854775807:=by have:=hx.len;unfold maxLen at this;omega
 have hl':ys.length≤9223372036854775807:=by have:=hy.len;unfold maxLen at this;omega
 have E:=Ad (Ac hx hy);clear hx hy;by_cases he:xs.length=ys.length
 ·have he':((xs.length:Int) != ys.length)=false:=by simp[he]
  have HE:=Ad he;clear he;go_enter Tryz.func96,Tryz.ntmps96;go_wp2_with fail;go_loopg[5] xs.length (fun gk i wr=> ∃k:Nat,k≤xs.length∧i=.int .i64 k∧gk=xs.length-k∧Hid (xs.take k=ys.take k)∧ ∃n,wr=w.drewN n);case atStart=>exact⟨0,by omega,rfl,by omega,rfl,0,rfl⟩
  case round=>
   obtain⟨k,hk,rfl,rfl,hT,nd,rfl⟩:=hrel;by_cases hlt:k<xs.length
   ·obtain⟨b,off,rfl,hb,hI,k0,k1⟩:=E.out.1.dv hlt;have hlt':k<ys.length:=HE.out▸hlt;obtain⟨b',off',rfl,hb',hI',k0',k1'⟩:=E.out.2.dv hlt';have hi1:(k:Int)<xs.length:=by omega
    have hi2:(k:Int)<ys.length:=by omega
    have hi3:(0:Int)≤k:=by omega
    rcases Decidable.em (xs[k]=ys[k]) with hq|hq
    ·have hne:=dm (x:=xs[k]) (y:=ys[k]) hq;have HQ:=Ad hq;clear hq;go_wp2_with fail;go_quiet(fail);go_wp2_with fail;go_roundg(xs.length-(k+1));case measure=>omega
     case rel=>exact⟨k+1,by omega,by go_num,rfl,gX hlt hlt' hT.out HQ.out,by first|exact⟨_,rfl⟩|exact jS _ _ _⟩
    ·have hne:=cS (x:=xs[k]) (y:=ys[k]) hq;have HQ:=Ad hq;clear hq;go_wp2_with fail;go_quiet(fail);go_wp2_with fail;go_ret;exact⟨by rw[R.out,decide_eq_false (fun h=>HQ.out (by subst h;rfl))];rfl,by first|exact⟨_,rfl⟩|exact jS _ _ _⟩
   ·have e:k=xs.length:=by omega
    go_wp2_with fail;go_ret;exact⟨by rw[R.out,decide_eq_true (iX e HE.out hT.out)];rfl,_,rfl⟩
 ·have he':((xs.length:Int) != ys.length)=true:=by simp;omega
  go_enter Tryz.func96,Tryz.ntmps96;go_wp2_with fail;go_ret;exact⟨by rw[R.out,decide_eq_false (fun h=>he (by rw[h]))];rfl,0,rfl⟩
theorem jL(xs ys:List GStep)(A A':Option Addr)(c c':Nat)(w:World)(hx:SA w xs A c)(hy:SA w ys A' c'):Calls Tryz.prog 95 #[.slice A xs.length c,.slice A' ys.length c'] w (fV w (.bool (decide (xs=ys)))):=by
 obtain⟨r,hr⟩: ∃r,r=decide (xs=ys):=⟨_,rfl⟩;rw[←hr];have R:=Ad hr;clear hr;have hl:xs.length≤9223372036854775807:=by have:=hx.len;unfold maxLen at this;omega
 have hl':ys.length≤9223372036854775807:=by have:=hy.len;unfold maxLen at this;omega
 have E:=Ad (Ac hx hy);clear hx hy;by_cases he:xs.length=ys.length
 ·have he':((xs.length:Int) != ys.length)=false:=by simp[he]
  have HE:=Ad he;clear he;go_enter Tryz.func95,Tryz.ntmps95;go_wp2_with fail;go_loopg[13] xs.length (fun gk i wr=> ∃k:Nat,k≤xs.length∧i=.int .i64 k∧gk=xs.length-k∧Hid (xs.take k=ys.take k)∧ ∃n,wr=w.drewN n);case atStart=>exact⟨0,by omega,rfl,by omega,rfl,0,rfl⟩
  case round=>
   obtain⟨k,hk,rfl,rfl,hT,nd,rfl⟩:=hrel;by_cases hlt:k<xs.length
   ·obtain⟨b,off,rfl,hb,hI,k0,k1⟩:=E.out.1.dv hlt;have hlt':k<ys.length:=HE.out▸hlt;obtain⟨b',off',rfl,hb',hI',k0',k1'⟩:=E.out.2.dv hlt';have hi1:(k:Int)<xs.length:=by omega
    have hi2:(k:Int)<ys.length:=by omega
    have hi3:(0:Int)≤k:=by omega
    rcases Decidable.em (xs[k]=ys[k]) with hq|hq
    ·have hne:=dm (x:=xs[k]) (y:=ys[k]) hq;have HQ:=Ad hq;clear hq;go_wp2_with fail;go_quiet(fail);go_wp2_with fail;go_roundg(xs.length-(k+1));case measure=>omega
     case rel=>exact⟨k+1,by omega,by go_num,rfl,gX hlt hlt' hT.out HQ.out,by first|exact⟨_,rfl⟩|exact jS _ _ _⟩
    ·have hne:=cS (x:=xs[k]) (y:=ys[k]) hq;have HQ:=Ad hq;clear hq;go_wp2_with fail;go_quiet(fail);go_wp2_with fail;go_ret;exact⟨by rw[R.out,decide_eq_false (fun h=>HQ.out (by subst h;rfl))];rfl,by first|exact⟨_,rfl⟩|exact jS _ _ _⟩
   ·have e:k=xs.length:=by omega
    go_wp2_with fail;go_ret;exact⟨by rw[R.out,decide_eq_true (iX e HE.out hT.out)];rfl,_,rfl⟩
 ·have he':((xs.length:Int) != ys.length)=true:=by simp;omega
  go_enter Tryz.func95,Tryz.ntmps95;go_wp2_with fail;go_ret;exact⟨by rw[R.out,decide_eq_false (fun h=>he (by rw[h]))];rfl,0,rfl⟩
theorem oY{xs ys:List GStep}(e:xs=ys)(A A':Option Addr)(c c':Nat)(w:World)(hx:SA w xs A c)(hy:SA w ys A' c'):Calls Tryz.prog 96 #[.slice A xs.length c,.slice A' ys.length c'] w (fV w (.bool true)):=by
 have h:=dY xs ys A A' c c' w hx hy;rwa[decide_eq_true e] at h
theorem nQ{xs ys:List GStep}(e:xs≠ys)(A A':Option Addr)(c c':Nat)(w:World)(hx:SA w xs A c)(hy:SA w ys A' c'):Calls Tryz.prog 96 #[.slice A xs.length c,.slice A' ys.length c'] w (fV w (.bool false)):=by
 have h:=dY xs ys A A' c c' w hx hy;rwa[decide_eq_false e] at h
theorem SA.take{α:Type}[aE α]{w:World}{l:List α}{A:Option Addr}{c:Nat}(h:SA w l A c)(k:Nat)(hk:k≤l.length):SA w (l.take k) A c∧(l.take k).length=k:=by
 obtain⟨F,⟨h1,h2,h3⟩,hF⟩:=h;refine⟨?_,by simp;omega⟩;rcases h3 with⟨rfl,rfl,hz⟩|⟨b,off,F',xs,hA,rfl,he,hc⟩;·exact⟨[],⟨by simp,h2,.inl ⟨by simp,rfl,hz⟩⟩,by simp⟩
 ·rw[←List.take_append_drop k l] at he;obtain⟨F1,F2,x1,x2,rfl,rfl,he1,_⟩:=he.split;refine⟨b::F1,⟨by simp;omega,h2,.inr ⟨b,off,F1,x1,hA,rfl,he1,fun j v hj=> ?_⟩⟩,fun x hx=>hF x ?_⟩;·exact hc j v (by rw[List.getElem?_append_left (List.getElem?_eq_some_iff.1 hj).1];exact hj)
  ·simp only[List.mem_cons,List.mem_append] at hx ⊢;rcases hx with rfl|hx;·exact .inl rfl
   ·exact .inr (.inl hx)
section
section
variable {α : Type} [DecidableEq α] {lt : α → α → Bool} {xs ys : List α} {k : Nat}
theorem kC(h:k<xs.length)(h':k<ys.length)(e:xs[k]=ys[k]):im lt (xs.drop k) (ys.drop k)=im lt (xs.drop (k+1)) (ys.drop (k+1)):=by
 rw[List.drop_eq_getElem_cons h,List.drop_eq_getElem_cons h',im,if_pos e]
theorem lE(h:k<xs.length)(h':k<ys.length)(e:xs[k]≠ys[k]):im lt (xs.drop k) (ys.drop k)=lt xs[k] ys[k]:=by
 rw[List.drop_eq_getElem_cons h,List.drop_eq_getElem_cons h',im,if_neg e]
theorem gg(h:k≤xs.length)(h':k≤ys.length)(e:k=xs.length∨k=ys.length):im lt (xs.drop k) (ys.drop k)=decide (xs.length<ys.length):=by
 by_cases e1:k=xs.length
 ·by_cases e2:k=ys.length;·rw[List.drop_eq_nil_of_le (by omega),List.drop_eq_nil_of_le (by omega),im,decide_eq_false (by omega)]
  ·rw[List.drop_eq_nil_of_le (by omega),List.drop_eq_getElem_cons (show k<ys.length by omega),im,decide_eq_true (by omega)]
 ·rw[List.drop_eq_getElem_cons (show k<xs.length by omega),List.drop_eq_nil_of_le (show ys.length≤k by omega),im,decide_eq_false (by omega)]
end
theorem l5(xs ys:List GStep)(A A':Option Addr)(c c':Nat)(w:World)(hx:SA w xs A c)(hy:SA w ys A' c'):Calls Tryz.prog 275 #[.slice A xs.length c,.slice A' ys.length c'] w (fV w (.bool (cW xs ys))):=by
 obtain⟨r,hr⟩: ∃r,r=cW xs ys:=⟨_,rfl⟩;rw[←hr];have R:=Ad hr;clear hr;have hl:xs.length≤9223372036854775807:=by have:=hx.len;unfold maxLen at this;omega
 have hl':ys.length≤9223372036854775807:=by have:=hy.len;unfold maxLen at this;omega
 have E:=Ad (Ac hx hy);clear hx hy;go_enter Tryz.func275,Tryz.ntmps275;go_wp2_with fail;go_loopg[5] (min xs.length ys.length) (fun gk i wr=> ∃k:Nat,k≤xs.length∧k≤ys.length∧k≤min xs.length ys.length∧i=.int .i64 k∧gk=min xs.length ys.length-k∧Hid (r=cW (xs.drop k) (ys.drop k))∧ ∃n,wr=w.drewN n);case atStart=>exact⟨0,by omega,by omega,by omega,rfl,by omega,R.out,0,rfl⟩
 case round=>
  obtain⟨k,hk,hk',hkN,rfl,rfl,hT,nd,rfl⟩:=hrel;by_cases hlt:k<xs.length
  ·by_cases hlt':k<ys.length
   ·obtain⟨b,off,rfl,hb,hI,k0,k1⟩:=E.out.1.dv hlt;obtain⟨b',off',rfl,hb',hI',k0',k1'⟩:=E.out.2.dv hlt';have hi1:(k:Int)<xs.length:=by omega
    have hi2:(k:Int)<ys.length:=by omega
    have hi3:(0:Int)≤k:=by omega
    rcases Decidable.em (xs[k]=ys[k]) with hq|hq
    ·have hne:=dm (x:=xs[k]) (y:=ys[k]) hq;have HT2:Hid (r=cW (xs.drop (k+1)) (ys.drop (k+1))):=by show _=_;rw[hT.out];exact kC hlt hlt' hq
     have HQ:=Ad hq;clear hq;go_wp2_with fail;go_quiet(fail);go_wp2_with fail;go_roundg(min xs.length ys.length-(k+1));case measure=>omega
     case rel=>exact⟨k+1,by omega,by omega,by omega,by go_num,rfl,HT2.out,by first|exact⟨_,rfl⟩|exact jS _ _ _⟩
    ·have hne:=cS (x:=xs[k]) (y:=ys[k]) hq;have hr2:r=(decide (xs[k].at_<ys[k].at_)||(decide (xs[k].at_=ys[k].at_)&&xs[k].name)):=by rw[hT.out];unfold cW;rw[lE hlt hlt' hq,me hq]
     have HQ:=Ad hq;clear hq hT;by_cases h1:xs[k].at_<ys[k].at_
     ·have hr3:r=true:=by rw[hr2,decide_eq_true h1];rfl
      subst hr3;clear hr2 R;go_wp2_with fail;go_quiet(fail);go_wp2_with fail;go_quiet(fail);go_wp2_with fail;go_ret;exact⟨rfl,by first|exact⟨_,rfl⟩|exact jS _ _ _|(rw[World.drewN_drewN,World.drewN_drewN];exact⟨_,rfl⟩)⟩
     ·by_cases h2:xs[k].at_=ys[k].at_
      ·have hr3:r=xs[k].name:=by rw[hr2,decide_eq_false h1,decide_eq_true h2];rfl
       have h1': ¬ys[k].at_<ys[k].at_:=by omega
       have hb2:(xs[k].at_==ys[k].at_)=true:=by rw[h2];simp
       clear hr2 R;have H2:=Ad h2;clear h2;have HR3:=Ad hr3;clear hr3;go_wp2_with fail;go_quiet(fail);go_wp2_with fail;go_quiet(fail);go_wp2_with fail;go_ret;exact⟨by rw[HR3.out];show Ending.returned (.bool (decide (xs[k].at_<ys[k].at_)||xs[k].name))=_;rw[decide_eq_false (by omega)];rfl,by first|exact⟨_,rfl⟩|exact jS _ _ _|(rw[World.drewN_drewN,World.drewN_drewN];exact⟨_,rfl⟩)⟩
      ·have hr3:r=false:=by rw[hr2,decide_eq_false h1,decide_eq_false h2];rfl
       subst hr3;have hb2:(xs[k].at_==ys[k].at_)=false:=by simpa using h2
       clear hr2 R;have H2:=Ad h2;clear h2;go_wp2_with fail;go_quiet(fail);go_wp2_with fail;go_quiet(fail);go_wp2_with fail;go_ret;exact⟨by show Ending.returned (.bool (decide (xs[k].at_<ys[k].at_)))=_;rw[decide_eq_false (by omega)],by first|exact⟨_,rfl⟩|exact jS _ _ _|(rw[World.drewN_drewN,World.drewN_drewN];exact⟨_,rfl⟩)⟩
   ·skip;have hi2: ¬(k:Int)<ys.length:=by omega
    have hi1:(k:Int)<xs.length:=by omega
    have hr2:r=decide (xs.length<ys.length):=by rw[hT.out];exact gg hk hk' (by omega)
    have hr3:r=false:=by rw[hr2,decide_eq_false (by omega)]
    subst hr3;have hi5: ¬(xs.length:Int)<ys.length:=by omega
    clear R hT hr2;go_wp2_with fail;go_ret;exact⟨rfl,by first|exact⟨_,rfl⟩|exact jS _ _ _⟩
  ·skip;have hi1: ¬(k:Int)<xs.length:=by omega
   have hr2:r=decide (xs.length<ys.length):=by rw[hT.out];exact gg hk hk' (by omega)
   by_cases h5:xs.length<ys.length
   ·have hr3:r=true:=by rw[hr2,decide_eq_true h5]
    subst hr3;have hi5:(xs.length:Int)<ys.length:=by omega
    clear R hT hr2;go_wp2_with fail;go_ret;exact⟨rfl,by first|exact⟨_,rfl⟩|exact jS _ _ _⟩
   ·have hr3:r=false:=by rw[hr2,decide_eq_false h5]
    subst hr3;have hi5: ¬(xs.length:Int)<ys.length:=by omega
    clear R hT hr2;go_wp2_with fail;go_ret;exact⟨rfl,by first|exact⟨_,rfl⟩|exact jS _ _ _⟩
theorem gU(xs ys:List GStep)(A A':Option Addr)(c c':Nat)(w:World)(hx:SA w xs A c)(hy:SA w ys A' c'):Calls Tryz.prog 215 #[.slice A xs.length c,.slice A' ys.length c'] w (fV w (.bool (cW xs ys))):=by
 obtain⟨r,hr⟩: ∃r,r=cW xs ys:=⟨_,rfl⟩;rw[←hr];have R:=Ad hr;clear hr;have hl:xs.length≤9223372036854775807:=by have:=hx.len;unfold maxLen at this;omega
 have hl':ys.length≤9223372036854775807:=by have:=hy.len;unfold maxLen at this;omega
 have E:=Ad (Ac hx hy);clear hx hy;rcases Nat.lt_or_ge ys.length xs.length with hm|hm
 ·have hm1:(ys.length:Int)<xs.length:=by omega
  go_enter Tryz.func215,Tryz.ntmps215;go_wp2_with fail;go_loopg[5,11] (ys.length) (fun gk _ i wr=> ∃k:Nat,k≤xs.length∧k≤ys.length∧k≤ys.length∧i=.int .i64 k∧gk=ys.length-k∧Hid (r=cW (xs.drop k) (ys.drop k))∧ ∃n,wr=w.drewN n);case atStart=>exact⟨0,by omega,by omega,by omega,rfl,by omega,R.out,0,rfl⟩
  case round=>
   obtain⟨k,hk,hk',hkN,rfl,rfl,hT,nd,rfl⟩:=hrel;by_cases hlt:k<xs.length
   ·by_cases hlt':k<ys.length
    ·obtain⟨b,off,rfl,hb,hI,k0,k1⟩:=E.out.1.dv hlt;obtain⟨b',off',rfl,hb',hI',k0',k1'⟩:=E.out.2.dv hlt';have hi1:(k:Int)<xs.length:=by omega
     have hi2:(k:Int)<ys.length:=by omega
     have hi3:(0:Int)≤k:=by omega
     rcases Decidable.em (xs[k]=ys[k]) with hq|hq
     ·have hne:=dm (x:=xs[k]) (y:=ys[k]) hq;have HT2:Hid (r=cW (xs.drop (k+1)) (ys.drop (k+1))):=by show _=_;rw[hT.out];exact kC hlt hlt' hq
      have HQ:=Ad hq;clear hq;go_wp2_with fail;go_quiet(fail);go_wp2_with fail;go_roundg(ys.length-(k+1));case measure=>omega
      case rel=>exact⟨k+1,by omega,by omega,by omega,by go_num,rfl,HT2.out,by first|exact⟨_,rfl⟩|exact jS _ _ _⟩
     ·have hne:=cS (x:=xs[k]) (y:=ys[k]) hq;have hr2:r=(decide (xs[k].at_<ys[k].at_)||(decide (xs[k].at_=ys[k].at_)&&xs[k].name)):=by rw[hT.out];unfold cW;rw[lE hlt hlt' hq,me hq]
      have HQ:=Ad hq;clear hq hT;by_cases h1:xs[k].at_<ys[k].at_
      ·have hr3:r=true:=by rw[hr2,decide_eq_true h1];rfl
       subst hr3;clear hr2 R;go_wp2_with fail;go_quiet(fail);go_wp2_with fail;go_quiet(fail);go_wp2_with fail;go_ret;exact⟨rfl,by first|exact⟨_,rfl⟩|exact jS _ _ _|(rw[World.drewN_drewN,World.drewN_drewN];exact⟨_,rfl⟩)⟩
      ·by_cases h2:xs[k].at_=ys[k].at_
       ·have hr3:r=xs[k].name:=by rw[hr2,decide_eq_false h1,decide_eq_true h2];rfl
        have h1': ¬ys[k].at_<ys[k].at_:=by omega
        have hb2:(xs[k].at_==ys[k].at_)=true:=by rw[h2];simp
        clear hr2 R;have H2:=Ad h2;clear h2;have HR3:=Ad hr3;clear hr3;go_wp2_with fail;go_quiet(fail);go_wp2_with fail;go_quiet(fail);go_wp2_with fail;go_ret;exact⟨by rw[HR3.out];show Ending.returned (.bool (decide (xs[k].at_<ys[k].at_)||xs[k].name))=_;rw[decide_eq_false (by omega)];rfl,by first|exact⟨_,rfl⟩|exact jS _ _ _|(rw[World.drewN_drewN,World.drewN_drewN];exact⟨_,rfl⟩)⟩
       ·have hr3:r=false:=by rw[hr2,decide_eq_false h1,decide_eq_false h2];rfl
        subst hr3;have hb2:(xs[k].at_==ys[k].at_)=false:=by simpa using h2
        clear hr2 R;have H2:=Ad h2;clear h2;go_wp2_with fail;go_quiet(fail);go_wp2_with fail;go_quiet(fail);go_wp2_with fail;go_ret;exact⟨by show Ending.returned (.bool (decide (xs[k].at_<ys[k].at_)))=_;rw[decide_eq_false (by omega)],by first|exact⟨_,rfl⟩|exact jS _ _ _|(rw[World.drewN_drewN,World.drewN_drewN];exact⟨_,rfl⟩)⟩
    ·skip;have hi2: ¬(k:Int)<ys.length:=by omega
     have hi1:(k:Int)<xs.length:=by omega
     have hr2:r=decide (xs.length<ys.length):=by rw[hT.out];exact gg hk hk' (by omega)
     have hr3:r=false:=by rw[hr2,decide_eq_false (by omega)]
     subst hr3;have hi5: ¬(xs.length:Int)<ys.length:=by omega
     clear R hT hr2;go_wp2_with fail;go_ret;exact⟨rfl,by first|exact⟨_,rfl⟩|exact jS _ _ _⟩
   ·exfalso;omega
 ·have hm1: ¬(ys.length:Int)<xs.length:=by omega
  go_enter Tryz.func215,Tryz.ntmps215;go_wp2_with fail;go_loopg[5,11] (xs.length) (fun gk _ i wr=> ∃k:Nat,k≤xs.length∧k≤ys.length∧k≤xs.length∧i=.int .i64 k∧gk=xs.length-k∧Hid (r=cW (xs.drop k) (ys.drop k))∧ ∃n,wr=w.drewN n);case atStart=>exact⟨0,by omega,by omega,by omega,rfl,by omega,R.out,0,rfl⟩
  case round=>
   obtain⟨k,hk,hk',hkN,rfl,rfl,hT,nd,rfl⟩:=hrel;by_cases hlt:k<xs.length
   ·by_cases hlt':k<ys.length
    ·obtain⟨b,off,rfl,hb,hI,k0,k1⟩:=E.out.1.dv hlt;obtain⟨b',off',rfl,hb',hI',k0',k1'⟩:=E.out.2.dv hlt';have hi1:(k:Int)<xs.length:=by omega
     have hi2:(k:Int)<ys.length:=by omega
     have hi3:(0:Int)≤k:=by omega
     rcases Decidable.em (xs[k]=ys[k]) with hq|hq
     ·have hne:=dm (x:=xs[k]) (y:=ys[k]) hq;have HT2:Hid (r=cW (xs.drop (k+1)) (ys.drop (k+1))):=by show _=_;rw[hT.out];exact kC hlt hlt' hq
      have HQ:=Ad hq;clear hq;go_wp2_with fail;go_quiet(fail);go_wp2_with fail;go_roundg(xs.length-(k+1));case measure=>omega
      case rel=>exact⟨k+1,by omega,by omega,by omega,by go_num,rfl,HT2.out,by first|exact⟨_,rfl⟩|exact jS _ _ _⟩
     ·have hne:=cS (x:=xs[k]) (y:=ys[k]) hq;have hr2:r=(decide (xs[k].at_<ys[k].at_)||(decide (xs[k].at_=ys[k].at_)&&xs[k].name)):=by rw[hT.out];unfold cW;rw[lE hlt hlt' hq,me hq]
      have HQ:=Ad hq;clear hq hT;by_cases h1:xs[k].at_<ys[k].at_
      ·have hr3:r=true:=by rw[hr2,decide_eq_true h1];rfl
       subst hr3;clear hr2 R;go_wp2_with fail;go_quiet(fail);go_wp2_with fail;go_quiet(fail);go_wp2_with fail;go_ret;exact⟨rfl,by first|exact⟨_,rfl⟩|exact jS _ _ _|(rw[World.drewN_drewN,World.drewN_drewN];exact⟨_,rfl⟩)⟩
      ·by_cases h2:xs[k].at_=ys[k].at_
       ·have hr3:r=xs[k].name:=by rw[hr2,decide_eq_false h1,decide_eq_true h2];rfl
        have h1': ¬ys[k].at_<ys[k].at_:=by omega
        have hb2:(xs[k].at_==ys[k].at_)=true:=by rw[h2];simp
        clear hr2 R;have H2:=Ad h2;clear h2;have HR3:=Ad hr3;clear hr3;go_wp2_with fail;go_quiet(fail);go_wp2_with fail;go_quiet(fail);go_wp2_with fail;go_ret;exact⟨by rw[HR3.out];show Ending.returned (.bool (decide (xs[k].at_<ys[k].at_)||xs[k].name))=_;rw[decide_eq_false (by omega)];rfl,by first|exact⟨_,rfl⟩|exact jS _ _ _|(rw[World.drewN_drewN,World.drewN_drewN];exact⟨_,rfl⟩)⟩
       ·have hr3:r=false:=by rw[hr2,decide_eq_false h1,decide_eq_false h2];rfl
        subst hr3;have hb2:(xs[k].at_==ys[k].at_)=false:=by simpa using h2
        clear hr2 R;have H2:=Ad h2;clear h2;go_wp2_with fail;go_quiet(fail);go_wp2_with fail;go_quiet(fail);go_wp2_with fail;go_ret;exact⟨by show Ending.returned (.bool (decide (xs[k].at_<ys[k].at_)))=_;rw[decide_eq_false (by omega)],by first|exact⟨_,rfl⟩|exact jS _ _ _|(rw[World.drewN_drewN,World.drewN_drewN];exact⟨_,rfl⟩)⟩
    ·exfalso;omega
   ·skip;have hi1: ¬(k:Int)<xs.length:=by omega
    have hr2:r=decide (xs.length<ys.length):=by rw[hT.out];exact gg hk hk' (by omega)
    by_cases h5:xs.length<ys.length
    ·have hr3:r=true:=by rw[hr2,decide_eq_true h5]
     subst hr3;have hi5:(xs.length:Int)<ys.length:=by omega
     clear R hT hr2;go_wp2_with fail;go_ret;exact⟨rfl,by first|exact⟨_,rfl⟩|exact jS _ _ _⟩
    ·have hr3:r=false:=by rw[hr2,decide_eq_false h5]
     subst hr3;have hi5: ¬(xs.length:Int)<ys.length:=by omega
     clear R hT hr2;go_wp2_with fail;go_ret;exact⟨rfl,by first|exact⟨_,rfl⟩|exact jS _ _ _⟩
end
theorem dL: ∀(w:World)(F:List Nat)(a:GStep)(cs:List Value),aE.rp w F a cs→F=[]:=fun _ _ _ _ h=>h.1
theorem dB(p:List GStep)(s:GStep)(A:Option Addr)(c:Nat)(w:World)(hn:p.length≤4194304)(hI:a8 s.at_)(hp:SA w p A c):Calls Tryz.prog 216 #[.slice A p.length c,.agg #[.int .i64 s.at_,.bool s.name]] w (xM w (p++[s])):=by
 have E:=Ad (hp.below (ab (ae w) (.cells #[.int .i64 s.at_,.bool s.name] 86)));clear hp;have P0:=Ad (aj.new w 86 #[.int .i64 s.at_,.bool s.name]);go_enter Tryz.func216,Tryz.ntmps216;go_wp2_with fail;go_region_held3(fun u=>u.cell? ⟨w.heap.size,0,none⟩=some (.int .i64 s.at_)∧u.cell? ⟨w.heap.size,1,none⟩=some (.bool s.name)) (go_keep) (first|((refine aM rfl (.tmp 5) (.tmp 6) 38 rfl (v:=.slice (some ⟨_,0,none⟩) 0 0) (u:=.slice A p.length c) rfl rfl (a7 dL 38 _ (w.heap.size+1) 86 (.agg #[.int .i64 0,.bool false]) 16 Tryz.underlying38 cF rfl (by decide) _ [] p A c (by first|exact(ay.dV _ _ _ _ (by simp) (by omega)).drew|exact((ay.dV _ _ _ _ (by simp) (by omega)).alloc _).drew) (by first|exact(E.out.below (ab (ae _) _)).drew|exact(E.out.below (ab (ab (ae _) _) _)).drew) (by simp;omega) (by simp;unfold maxLen;omega) (by simp)) ?_;rintro v1 w1 ⟨ho,hbl,hloc,hg⟩;rw[List.nil_append] at ho;obtain⟨A1,c1,rfl⟩:=ho.form;have HB1:=Ad (show Below w.heap.size w w1 from Below.trans (by first|exact(ab (ab (ae w) _) _).drew|exact(ab (ab (ab (ae w) _) _) _).drew) (hbl.mono (by omega)));have HP1:=Ad (aj.aG (show aj _ w.heap.size 86 #[.int .i64 s.at_,.bool s.name] by first|exact(P0.out.alloc _).drew|exact((P0.out.alloc _).alloc _).drew) hbl (by omega));obtain⟨q0,q1⟩:=HP1.out.c2;have hz1:w.heap.size+1≤w1.heap.size:=(by have:=hbl.size;simp at this;omega);have HO1:=Ad ho;have HG:=Ad hg;clear ho hbl hloc hg))|((refine aM rfl (.tmp 7) (.tmp 9) 38 rfl (v:=.slice A1 p.length c1) (u:=.slice (some ⟨_,0,none⟩) 1 1) rfl rfl (cN 38 _ (w.heap.size+1) 86 (.agg #[.int .i64 0,.bool false]) 16 Tryz.underlying38 cF rfl (by decide) _ p s [.int .i64 s.at_,.bool s.name] w1 ⟨_,0,none⟩ 1 HO1.out (by first|exact ae w1|exact ab (ae w1) _) (RF.step s hI) (by first|exact aF [.int .i64 s.at_,.bool s.name] rfl|exact aj.cells (cs:=#[.int .i64 s.at_,.bool s.name]) (aj.grown (aj.at (by simp)).drew HG.out (by simp[Value.ownBlock]<;>omega))|exact aj.cells (cs:=#[.int .i64 s.at_,.bool s.name]) (aj.grown ((aj.at (by simp)).alloc _).drew HG.out (by simp[Value.ownBlock]<;>omega))) (by omega) (by unfold maxLen;omega) (by omega)) ?_;rintro v2 w2 ⟨ho,hbl,_⟩;obtain⟨A2,c2,rfl⟩:=ho.form;have HB2:=Ad (show Below w.heap.size w w2 from Below.trans (by first|exact HB1.out|exact ab HB1.out _) (hbl.mono (by omega)));have HO2:=Ad ho;obtain⟨r0,r1⟩:=(aj.aG (show aj _ w.heap.size 86 #[.int .i64 s.at_,.bool s.name] by first|exact HP1.out|exact HP1.out.alloc _) hbl (by omega)).c2;clear ho hbl)));all_goals go_wp2_with fail;go_ret;exact⟨A2,c2,by simp,HO2.out.sf.2.mono (by omega),HB2.out⟩
theorem sL(x:ag)(A:Option Addr)(c:Nat)(w:World)(hn:x.p.length≤4194304)(hx:SA w x.p A c):Calls Tryz.prog 240 #[.agg #[.int .i64 x.kind,.slice A x.p.length c]] w fun e w'=> ∃A' c',e=.returned (.agg #[.int .i64 x.kind,.slice A' x.p.length c'])∧SF w.heap.size w' x.p A' c'∧Below w.heap.size w w':=by
 have b0:=ab (ab (ae w) (.cells #[.int .i64 x.kind,.slice A x.p.length c] 62)) (.cells #[.int .i64 0,.slice none 0 0] 62);have E:=Ad (hx.below b0);clear hx;have P0:=Ad ((aj.new w 62 #[.int .i64 x.kind,.slice A x.p.length c]).alloc (.cells #[.int .i64 0,.slice none 0 0] 62));have P1:=Ad (aj.at (w:=w.alloc (.cells #[.int .i64 x.kind,.slice A x.p.length c] 62)) (g:=w.heap.size+1) (t:=62) (cs:=#[.int .i64 0,.slice none 0 0]) (by simp));have B0:=Ad b0;clear b0;go_enter Tryz.func240,Tryz.ntmps240;go_wp2_with fail;go_region_held3(fun u=>u.cell? ⟨w.heap.size,0,none⟩=some (.int .i64 x.kind)∧u.cell? ⟨w.heap.size,1,none⟩=some (.slice A x.p.length c)) (go_keep) (first|((apply aM (s:=.tmp 5) (x:=.tmp 7) (t:=38) (v:=.slice (some ⟨w.heap.size+1+1,0,none⟩) 0 0) (u:=.slice A x.p.length c);(try case hgd=>exact rfl);(try case ho=>exact rfl);(try case hs=>exact rfl);(try case hx=>exact rfl);(case hrun=>exact a7 (P:=Tryz.prog) dL 38 38 (w.heap.size+1+1) 86 (.agg #[.int .i64 0,.bool false]) 16 Tryz.underlying38 cF rfl (by decide) _ [] x.p A c (ay.dV _ _ _ _ (by simp) (by omega)).drew (E.out.below (ab (ae _) _)).drew (by simp;omega) (by simp;unfold maxLen;omega) (by simp));rintro v1 w1 ⟨ho,hbl,_,hg⟩;rw[List.nil_append] at ho;obtain⟨A1,c1,rfl⟩:=ho.form;have HB1:=Ad (show Below w.heap.size w w1 from Below.trans (ab B0.out _).drew (hbl.mono (by omega)));have HO1:=Ad ho;have HP:=Ad (aj.aG (P0.out.alloc (.cells #[] 86)).drew hbl (by omega));have HQ:=Ad (aj.aG (P1.out.alloc (.cells #[] 86)).drew hbl (by omega));obtain⟨q0,q1⟩:=HP.out.c2;obtain⟨y0,y1⟩:=HQ.out.c2;have f0:=HQ.out.frozen 0;have f1:=HQ.out.frozen 1;have hz:=HQ.out.lt;clear ho hbl hg)));go_wp2_with fail;refine bodyPost_ret (v:=.agg #[.int .i64 x.kind,.slice A1 x.p.length c1]) (by simp[results,Tryz.results240,go_sem, *]) rfl ?_;refine⟨A1,c1,rfl,?_,?_⟩;·refine SF.mono (base:=w.heap.size+1+1) ?_ (by omega);refine SF.set (SF.set HO1.out.sf.2 ?_ _) ?_ _;all_goals(simp;try omega)
 ·refine Below.setCell (Below.setCell HB1.out ?_ _) ?_ _;all_goals(simp;try omega)
theorem SS.uK{w:World}{S:Nat→Prop}{l:List ag}{A:Option Addr}{c:Nat}(h:SS w S l A c){i:Nat}(hi:i<l.length): ∃b off A' c',A=some ⟨b,off,none⟩∧S b∧RS w S l[i] [.int .i64 l[i].kind,.slice A' l[i].p.length c']∧a8 l[i].kind∧SS w S l[i].p A' c'∧w.cell? ⟨b,off+i*2,none⟩=some (.int .i64 l[i].kind)∧w.cell? ⟨b,off+i*2+1,none⟩=some (.slice A' l[i].p.length c'):=by
 obtain⟨F,⟨h1,h2,h3⟩,hF⟩:=h;rcases h3 with⟨rfl,_⟩|⟨b,off,F',xs,hA,rfl,he,hc⟩;·simp at hi
 ·obtain⟨F1,cs,hr,hsub,hx⟩:=he.get i hi;obtain⟨A',c',rfl,hI,hs⟩:=hr;have h0:=hc.sub hx;exact⟨b,off,A',c',hA,hF b (List.mem_cons_self ..),⟨F1,⟨A',c',rfl,hI,hs⟩,fun b hb=>hF b (List.mem_cons_of_mem _ (hsub b hb))⟩,hI,⟨F1,hs,fun b hb=>hF b (List.mem_cons_of_mem _ (hsub b hb))⟩,h0.c0,h0.c1⟩
theorem SS.sa{α:Type}[aE α]{w:World}{S:Nat→Prop}{l:List α}{A:Option Addr}{c:Nat}(h:SS w S l A c)(hS: ∀b,S b→b<w.heap.size):SA w l A c:=SS.ak h (fun _ _=>rfl) hS
theorem gR(a b:ag)(A A':Option Addr)(c c':Nat)(w:World)(hA:SA w a.p A c)(hB:SA w b.p A' c'):Calls Tryz.prog 239 #[.agg #[.int .i64 a.kind,.slice A a.p.length c],.agg #[.int .i64 b.kind,.slice A' b.p.length c']] w (bN w (.bool (an a b))):=by
 have B0:=Ad (ab (ab (ae w) (.cells #[.int .i64 a.kind,.slice A a.p.length c] 62)) (.cells #[.int .i64 b.kind,.slice A' b.p.length c'] 62));have P0:=Ad ((aj.new w 62 #[.int .i64 a.kind,.slice A a.p.length c]).alloc (.cells #[.int .i64 b.kind,.slice A' b.p.length c'] 62));have P1:=Ad (aj.at (w:=w.alloc (.cells #[.int .i64 a.kind,.slice A a.p.length c] 62)) (g:=w.heap.size+1) (t:=62) (cs:=#[.int .i64 b.kind,.slice A' b.p.length c']) (by simp));have E:=Ad (Ac (hA.below B0.out) (hB.below B0.out));clear hA hB;obtain⟨r,hr⟩: ∃r,r=an a b:=⟨_,rfl⟩;rw[←hr];unfold an at hr;by_cases hp:a.p=b.p;·rw[if_pos hp] at hr;have HP:=Ad hp;clear hp;have HR:=Ad hr;clear hr;by_cases hk:a.kind<b.kind;all_goals go_enter Tryz.func239,Tryz.ntmps239;go_wp2_with fail;refine(oY HP.out A A' c c' _ E.out.1 E.out.2).mono ?_;rintro e w1 ⟨rfl,nq,rfl⟩;have Q0:=Ad (P0.out.drewN nq);have Q1:=Ad (P1.out.drewN nq);obtain⟨p0,p1⟩:=Q0.out.c2;obtain⟨q0,q1⟩:=Q1.out.c2;go_wp2_with fail;go_ret;exact⟨by rw[HR.out];simp[hk],below_drewN B0.out _⟩
 ·rw[if_neg hp] at hr;have HP:=Ad hp;clear hp;have HR:=Ad hr;clear hr;go_enter Tryz.func239,Tryz.ntmps239;go_wp2_with fail;refine(nQ HP.out A A' c c' _ E.out.1 E.out.2).mono ?_;rintro e w1 ⟨rfl,nq,rfl⟩;have Q0:=Ad (P0.out.drewN nq);have Q1:=Ad (P1.out.drewN nq);obtain⟨p0,p1⟩:=Q0.out.c2;obtain⟨q0,q1⟩:=Q1.out.c2;go_wp2_with fail;refine(l5 a.p b.p A A' c c' _ (E.out.1.drewN nq) (E.out.2.drewN nq)).mono ?_;rintro e w2 ⟨rfl,nq2,rfl⟩;go_wp2_with fail;go_ret;exact⟨by rw[HR.out];rfl,by first|exact below_drewN B0.out _|exact below_drewN (below_drewN B0.out _) _⟩
end Go.Proofs.YtodpdjehjllhdaaGreatDoor
