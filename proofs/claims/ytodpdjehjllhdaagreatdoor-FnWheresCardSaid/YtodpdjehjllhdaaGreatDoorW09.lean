/- Part of a proof: contracts and plain laws. -/
import Derived.Lib.ConvBytes
import Derived.Test.YtodpdjehjllhdaaGreatDoorW08
import Derived.Laws.StructEq
set_option linter.unusedVariables false
set_option linter.unusedSimpArgs false
set_option maxRecDepth 100000
set_option maxHeartbeats 20000000
namespace Go.Proofs.YtodpdjehjllhdaaGreatDoor
open Go.RowKit
def j4(w:World)(v:Value)(e:Ending)(w':World):Prop:=e=.returned v∧w=w'
theorem aN(x a b:Int)(w:World):Calls Tryz.prog 141 #[.int .i64 x,.int .i64 a,.int .i64 b] w (j4 w (.bool (decide (a≤x∧x≤b)))):=by
 obtain⟨r,hr⟩: ∃r,r=decide (a≤x∧x≤b):=⟨_,rfl⟩;rw[←hr];have R:=AJ hr;clear hr;by_cases h1:a≤x;·by_cases h2:x≤b;all_goals go_enter Tryz.func141,Tryz.ntmps141;go_wp2_with fail;go_ret;exact⟨by rw[R.out];simp[h1,h2],rfl⟩
 ·go_enter Tryz.func141,Tryz.ntmps141;go_wp2_with fail;go_ret;exact⟨by rw[R.out,decide_eq_false (by omega)];rfl,rfl⟩
theorem eJ(n:Int)(w:World):Calls Tryz.prog 281 #[.int .i64 n] w (j4 w (.bool (ff n))):=by
 obtain⟨r,hr⟩: ∃r,r=ff n:=⟨_,rfl⟩;rw[←hr];unfold ff at hr;have R:=AJ hr;clear hr;go_enter Tryz.func281,Tryz.ntmps281;go_wp2_with fail;refine(aN _ _ _ _).mono ?_;rintro e w1 ⟨rfl,rfl⟩;cases h:decide (0≤n∧n≤1114111) with|false=>have H:=AJ h;clear h;go_wp2_with fail;go_ret;exact⟨by rw[R.out,H.out];rfl,rfl⟩|true=>have H:=AJ h;clear h;go_wp2_with fail;refine(aN _ _ _ _).mono ?_;rintro e w1 ⟨rfl,rfl⟩;(have hrr:r= !decide (55296≤n∧n≤57343):=by rw[R.out,H.out];rfl);generalize decide (55296≤n∧n≤57343)=q at hrr;have HR:=AJ hrr;clear hrr;go_wp2_with fail;go_ret;exact⟨by rw[HR.out];rfl,rfl⟩
theorem cC(n:Int)(w:World):Calls Tryz.prog 246 #[.int .i64 n] w (j4 w (.int .i64 (eM n))):=by
 obtain⟨r,hr⟩: ∃r,r=eM n:=⟨_,rfl⟩;rw[←hr];unfold eM at hr;cases h:ff n with|false=>(have hr0:r=0:=by rw[hr,h];rfl);subst hr0;have H:=AJ h;clear h hr;go_enter Tryz.func246,Tryz.ntmps246;go_wp2_with fail;refine(eJ n _).mono ?_;rintro e w1 ⟨rfl,rfl⟩;rw[H.out];go_wp2_with fail;go_ret;exact⟨rfl,rfl⟩|true=>rw[h,if_pos rfl] at hr;have H:=AJ h;clear h;by_cases c1:n<128;(·rw[if_pos c1] at hr;subst hr;go_enter Tryz.func246,Tryz.ntmps246;go_wp2_with fail;refine(eJ n _).mono ?_;rintro e w1 ⟨rfl,rfl⟩;rw[H.out];go_wp2_with fail;go_ret;exact⟨rfl,rfl⟩);·rw[if_neg c1] at hr;by_cases c2:n<2048;(·rw[if_pos c2] at hr;subst hr;go_enter Tryz.func246,Tryz.ntmps246;go_wp2_with fail;refine(eJ n _).mono ?_;rintro e w1 ⟨rfl,rfl⟩;rw[H.out];go_wp2_with fail;go_ret;exact⟨rfl,rfl⟩);·rw[if_neg c2] at hr;by_cases c3:n<65536;all_goals(first|rw[if_pos c3] at hr|rw[if_neg c3] at hr);subst hr;go_enter Tryz.func246,Tryz.ntmps246;go_wp2_with fail;refine(eJ n _).mono ?_;rintro e w1 ⟨rfl,rfl⟩;rw[H.out];go_wp2_with fail;go_ret;exact⟨rfl,rfl⟩
def sV(k:Nat):Option (Nat×Nat)→Value|none=>.tuple #[.int .i64 0,.int .i64 0,.bool false]|some (n,w)=>.tuple #[.int .i64 n,.int .i64 ((k+w:Nat):Int),.bool true]
theorem kD(l:List UInt8)(k i:Nat)(h:k+i<l.length):bO (l.drop k) i=(l[k+i]).toNat:=by
 unfold bO;rw[List.getD_eq_getElem?_getD,List.getElem?_drop,List.getElem?_eq_getElem h];rfl
theorem kd{l:List UInt8}{W n0 j:Nat}(h:fh (bO l 0)=some (W,n0))(hj:j<W)(hc: ∀i,1≤i→i≤j→dm (bO l i)): ∃m:Nat,dX l n0 j=m∧m<2097152:=by
 obtain⟨m,h1,h2⟩:=xv (n0:=n0) hc;refine⟨m,h1,Nat.lt_of_lt_of_le h2 ?_⟩;have h0:=fG l 0;have hj4:j=0∨j=1∨j=2∨j=3:=by rcases eu h h0 with⟨h1,h2,h3⟩|⟨h1,h2,h3⟩|⟨h1,h2,h3⟩|⟨h1,h2,h3⟩<;>omega
 rcases eu h h0 with⟨rfl,h2,h3⟩|⟨rfl,h2,h3⟩|⟨rfl,h2,h3⟩|⟨rfl,h2,h3⟩<;>rcases hj4 with rfl|rfl|rfl|rfl<;>omega
theorem ve{x:Nat}(h:x<256):(fh x=some (1,x)∧(x:Int)<128)∨(fh x=some (2,x-192)∧ ¬(x:Int)<128∧decide ((192:Int)≤x∧(x:Int)≤223)=true)∨(fh x=some (3,x-224)∧ ¬(x:Int)<128∧decide ((192:Int)≤x∧(x:Int)≤223)=false∧decide ((224:Int)≤x∧(x:Int)≤239)=true)∨(fh x=some (4,x-240)∧ ¬(x:Int)<128∧decide ((192:Int)≤x∧(x:Int)≤223)=false∧decide ((224:Int)≤x∧(x:Int)≤239)=false∧decide ((240:Int)≤x∧(x:Int)≤247)=true)∨(fh x=none∧ ¬(x:Int)<128∧decide ((192:Int)≤x∧(x:Int)≤223)=false∧decide ((224:Int)≤x∧(x:Int)≤239)=false∧decide ((240:Int)≤x∧(x:Int)≤247)=false):=by
 unfold fh;simp only[decide_eq_true_eq,decide_eq_false_iff_not];by_cases h1:x<128;·left;rw[if_pos h1];exact⟨rfl,by omega⟩
 ·right;rw[if_neg h1];by_cases h2:192≤x∧x≤223;·left;rw[if_pos h2];exact⟨rfl,by omega,by omega⟩
  ·right;rw[if_neg h2];by_cases h3:224≤x∧x≤239;·left;rw[if_pos h3];exact⟨rfl,by omega,by omega,by omega⟩
   ·right;rw[if_neg h3];by_cases h4:240≤x∧x≤247;·left;rw[if_pos h4];exact⟨rfl,by omega,by omega,by omega,by omega⟩
    ·right;rw[if_neg h4];exact⟨rfl,by omega,by omega,by omega,by omega⟩
theorem iq(l:List UInt8)(k:Nat)(A:Option Addr)(c:Nat)(w:World)(hn:l.length≤1099511627776)(hk:k<l.length)(hs:SA w l A c):Calls Tryz.prog 201 #[.slice A l.length c,.int .i64 (k:Int)] w (j4 w (sV k (gp (l.drop k)))):=by
 obtain⟨b,off,rfl,hb,hc⟩:=hs.byte_at hk;have E:=AJ hs;clear hs;obtain⟨x,hx⟩: ∃x,x=(l[k]).toNat:=⟨_,rfl⟩;have hx0:x=bO (l.drop k) 0:=by rw[hx];exact(kD l k 0 (by omega)).symm
 have hxl:x<256:=by rw[hx];exact(l[k]).toNat_lt
 rw[←hx] at hc;clear hx;rcases ve hxl with⟨hh,q0⟩|⟨hh,q0,q1⟩|⟨hh,q0,q1,q2⟩|⟨hh,q0,q1,q2,q3⟩|⟨hh,q0,q1,q2,q3⟩
 ·have hr:gp (l.drop k)=some (x,1):=by rw[hx0];exact xy (by rw[List.length_drop];omega) (by omega)
  rw[hr];have hs1: ¬((l.length:Int)-k<1):=by omega
  have HH:=AJ (AH hx0 hh);clear hx0 hh hr;have hwid:eM (x:Int)=1:=by rcases fi (x:Int) with h|h|h|h|h;(·have:=h.2;rw[Bool.eq_false_iff] at this;exact absurd ((ez _).2 (by omega)) this);all_goals omega
  have HW2:=AJ hwid;clear hwid;go_enter Tryz.func201,Tryz.ntmps201;go_wp2_with fail;go_loopg[9,10] 1 (fun gk nn i wr=>nn=.int .i64 (x:Int)∧i=.int .i64 1∧wr=w);case atStart=>exact⟨rfl,rfl,rfl⟩
  case round=>obtain⟨rfl,rfl,rfl⟩:=hrel;go_wp2_with(go_at_call 246;refine(cC _ _).mono ?_;rintro e w1 ⟨rfl,rfl⟩;rw[HW2.out]);refine bodyPost_ret (v:=.tuple #[.int .i64 (x:Int),.int .i64 (k+1),.bool true]) (by simp[results,Tryz.results201,go_sem, *]<;>rfl) rfl ?_;exact⟨by unfold sV;go_num,rfl⟩
 ·obtain⟨n0,hn0⟩: ∃n0,n0=x-192:=⟨_,rfl⟩;have hx1:192≤x:=by simp only[decide_eq_true_eq] at q1;omega
  rw[←hn0] at hh;have Q1:=AJ q1;clear q1;have hW:Hid (fh (bO (l.drop k) 0)=some (2,n0)):=by show _=_;rw[←hx0,hh]
  have HN0:=AJ hn0;clear hn0 hh hx0;have hnw:Hid (IntKind.i64.wrap ((x:Int)-192)=(n0:Int)):=by show _=_;rw[IntKind.wrap_i64];have:=HN0.out;omega
  by_cases hs:l.length-k<2
  ·have hr:gp (l.drop k)=none:=j8 (by rw[List.length_drop];omega) hW.out (by rw[List.length_drop];omega);rw[hr];have hs1:(l.length:Int)-k<2:=by omega
   clear hr hs;go_enter Tryz.func201,Tryz.ntmps201;go_wp2_with(go_at_call 141;refine(aN _ _ _ _).mono ?_;rintro e w1 ⟨rfl,rfl⟩;first|rw[Q1.out]);all_goals first|(refine bodyPost_ret (v:=.tuple #[.int .i64 0,.int .i64 0,.bool false]) (by simp[results,Tryz.results201,go_sem, *]<;>rfl) rfl ?_;exact⟨rfl,rfl⟩)|(exfalso;omega)
  ·have hs1: ¬((l.length:Int)-k<2):=by omega
   have hs2:k+2≤l.length:=by omega
   obtain⟨r,hr⟩: ∃r,r=gp (l.drop k):=⟨_,rfl⟩;rw[←hr];have R:=AJ hr;clear hr hs;go_enter Tryz.func201,Tryz.ntmps201;go_wp2_with(go_at_call 141;refine(aN _ _ _ _).mono ?_;rintro e w1 ⟨rfl,rfl⟩;first|rw[Q1.out]);go_loopg[9,10] 1 (fun gk nn i wr=> ∃(j m:Nat),1≤j∧j≤2∧nn=.int .i64 (m:Int)∧i=.int .i64 (j:Int)∧gk=2-j∧m<2097152∧Hid (dX (l.drop k) n0 (j-1)=m)∧Hid (∀i,1≤i→i<j→dm (bO (l.drop k) i))∧wr=w);case atStart=>exact⟨1,n0,by omega,by omega,(by have h1:=HN0.out;rw[show(x:Int)-192=(n0:Int) by omega]),rfl,by omega,by have:=HN0.out;omega,rfl,fun i h1 h2=>by omega,rfl⟩
   case round=>
    obtain⟨j,m,hj1,hjW,rfl,rfl,rfl,hm,hacc,hcont,rfl⟩:=hrel;by_cases hlt:j<2
    ·have hkj:k+j<l.length:=by omega
     obtain⟨b2,off2,hA2,hb2,hc2⟩:=E.out.byte_at hkj;injection hA2 with hA2;injection hA2 with e1 e2;subst e1 e2;have hjj:((j:Int)<2):=by omega
     obtain⟨y,hy⟩: ∃y,y=(l[k+j]).toNat:=⟨_,rfl⟩;have hy2:bO (l.drop k) j=y:=by rw[hy];exact kD l k j hkj
     have hyl:y<256:=by rw[hy];exact(l[k+j]).toNat_lt
     rw[←hy] at hc2;have HY:=AJ hy2;clear hy hy2;by_cases hcb:dm y
     ·have hd:decide ((128:Int)≤y∧(y:Int)≤191)=true:=by unfold dm at hcb;simp;omega
      have hc3: ∀i,1≤i→i<j+1→dm (bO (l.drop k) i):=fun i h1 h2=>by rcases Nat.lt_or_ge i j with h|h;(·exact hcont.out i h1 h);·rw[show i=j by omega,HY.out];exact hcb
      obtain⟨m',hm1,hm2⟩:=kd (j:=j) hW.out hlt (fun i h1 h2=>hc3 i h1 (by omega));have hm3:dX (l.drop k) n0 j=64*(m:Int)+y-128:=by obtain⟨q,rfl⟩: ∃q,j=q+1:=⟨j-1,by omega⟩;rw[dX];have:=hacc.out;simp only[Nat.add_sub_cancel] at this;rw[this,HY.out]
      have hm4:(m':Int)=64*(m:Int)+y-128:=by rw[←hm1,hm3]
      have H3:=AJ (AH hm1 hc3);clear hm1 hc3 hm3;have D:=AJ hd;clear hd hcb;have H4:=AJ hm4;clear hm4;go_wp2_with(go_at_call 141;refine(aN _ _ _ _).mono ?_;rintro e w1 ⟨rfl,rfl⟩;rw[D.out]);go_roundg(2-(j+1));case measure=>omega
      case rel=>exact⟨j+1,m',by omega,by omega,(by rw[H4.out]),by go_num,rfl,hm2,H3.out.1,H3.out.2,rfl⟩
     ·have hd:decide ((128:Int)≤y∧(y:Int)≤191)=false:=by unfold dm at hcb;simp;omega
      have hr0:r=none:=by rw[R.out];exact om (j:=j) (by rw[List.length_drop];omega) hW.out hj1 hlt (by rw[HY.out];exact hcb)
      subst hr0;have D:=AJ hd;clear hd hcb;go_wp2_with(go_at_call 141;refine(aN _ _ _ _).mono ?_;rintro e w1 ⟨rfl,rfl⟩;rw[D.out]);refine bodyPost_ret (v:=.tuple #[.int .i64 0,.int .i64 0,.bool false]) (by simp[results,Tryz.results201,go_sem, *]<;>rfl) rfl ?_;exact⟨rfl,rfl⟩
    ·have e:j=2:=by omega
     subst e;have hfull:=l8 (by rw[List.length_drop];omega) hW.out (by rw[List.length_drop];omega) hcont.out;rw[hacc.out,Int.toNat_natCast] at hfull;by_cases hw:eM (m:Int)=2
     ·have hr0:r=some (m,2):=by rw[R.out];exact hfull.1 hw
      subst hr0;have HW2:=AJ hw;clear hfull hw;go_wp2_with(go_at_call 246;refine(cC _ _).mono ?_;rintro e w1 ⟨rfl,rfl⟩;rw[HW2.out]);refine bodyPost_ret (v:=.tuple #[.int .i64 (m:Int),.int .i64 (k+2),.bool true]) (by simp[results,Tryz.results201,go_sem, *]<;>rfl) rfl ?_;exact⟨by unfold sV;go_num,rfl⟩
     ·have hr0:r=none:=by rw[R.out];exact hfull.2 hw
      subst hr0;obtain⟨q,hq⟩: ∃q,q=eM (m:Int):=⟨_,rfl⟩;have hq2:((q:Int) != 2)=true:=by simp;omega
      have HW2:=AJ hq.symm;clear hfull hw hq;go_wp2_with(go_at_call 246;refine(cC _ _).mono ?_;rintro e w1 ⟨rfl,rfl⟩;rw[HW2.out]);refine bodyPost_ret (v:=.tuple #[.int .i64 0,.int .i64 0,.bool false]) (by simp[results,Tryz.results201,go_sem, *]<;>rfl) rfl ?_;exact⟨rfl,rfl⟩
 ·obtain⟨n0,hn0⟩: ∃n0,n0=x-224:=⟨_,rfl⟩;have hx1:224≤x:=by simp only[decide_eq_true_eq] at q2;omega
  rw[←hn0] at hh;have Q1:=AJ q1;clear q1;have Q2:=AJ q2;clear q2;have hW:Hid (fh (bO (l.drop k) 0)=some (3,n0)):=by show _=_;rw[←hx0,hh]
  have HN0:=AJ hn0;clear hn0 hh hx0;have hnw:Hid (IntKind.i64.wrap ((x:Int)-224)=(n0:Int)):=by show _=_;rw[IntKind.wrap_i64];have:=HN0.out;omega
  by_cases hs:l.length-k<3
  ·have hr:gp (l.drop k)=none:=j8 (by rw[List.length_drop];omega) hW.out (by rw[List.length_drop];omega);rw[hr];have hs1:(l.length:Int)-k<3:=by omega
   clear hr hs;go_enter Tryz.func201,Tryz.ntmps201;go_wp2_with(go_at_call 141;refine(aN _ _ _ _).mono ?_;rintro e w1 ⟨rfl,rfl⟩;first|rw[Q1.out]|rw[Q2.out]);all_goals first|(refine bodyPost_ret (v:=.tuple #[.int .i64 0,.int .i64 0,.bool false]) (by simp[results,Tryz.results201,go_sem, *]<;>rfl) rfl ?_;exact⟨rfl,rfl⟩)|(exfalso;omega)
  ·have hs1: ¬((l.length:Int)-k<3):=by omega
   have hs2:k+3≤l.length:=by omega
   obtain⟨r,hr⟩: ∃r,r=gp (l.drop k):=⟨_,rfl⟩;rw[←hr];have R:=AJ hr;clear hr hs;go_enter Tryz.func201,Tryz.ntmps201;go_wp2_with(go_at_call 141;refine(aN _ _ _ _).mono ?_;rintro e w1 ⟨rfl,rfl⟩;first|rw[Q1.out]|rw[Q2.out]);go_loopg[9,10] 2 (fun gk nn i wr=> ∃(j m:Nat),1≤j∧j≤3∧nn=.int .i64 (m:Int)∧i=.int .i64 (j:Int)∧gk=3-j∧m<2097152∧Hid (dX (l.drop k) n0 (j-1)=m)∧Hid (∀i,1≤i→i<j→dm (bO (l.drop k) i))∧wr=w);case atStart=>exact⟨1,n0,by omega,by omega,(by have h1:=HN0.out;rw[show(x:Int)-224=(n0:Int) by omega]),rfl,by omega,by have:=HN0.out;omega,rfl,fun i h1 h2=>by omega,rfl⟩
   case round=>
    obtain⟨j,m,hj1,hjW,rfl,rfl,rfl,hm,hacc,hcont,rfl⟩:=hrel;by_cases hlt:j<3
    ·have hkj:k+j<l.length:=by omega
     obtain⟨b2,off2,hA2,hb2,hc2⟩:=E.out.byte_at hkj;injection hA2 with hA2;injection hA2 with e1 e2;subst e1 e2;have hjj:((j:Int)<3):=by omega
     obtain⟨y,hy⟩: ∃y,y=(l[k+j]).toNat:=⟨_,rfl⟩;have hy2:bO (l.drop k) j=y:=by rw[hy];exact kD l k j hkj
     have hyl:y<256:=by rw[hy];exact(l[k+j]).toNat_lt
     rw[←hy] at hc2;have HY:=AJ hy2;clear hy hy2;by_cases hcb:dm y
     ·have hd:decide ((128:Int)≤y∧(y:Int)≤191)=true:=by unfold dm at hcb;simp;omega
      have hc3: ∀i,1≤i→i<j+1→dm (bO (l.drop k) i):=fun i h1 h2=>by rcases Nat.lt_or_ge i j with h|h;(·exact hcont.out i h1 h);·rw[show i=j by omega,HY.out];exact hcb
      obtain⟨m',hm1,hm2⟩:=kd (j:=j) hW.out hlt (fun i h1 h2=>hc3 i h1 (by omega));have hm3:dX (l.drop k) n0 j=64*(m:Int)+y-128:=by obtain⟨q,rfl⟩: ∃q,j=q+1:=⟨j-1,by omega⟩;rw[dX];have:=hacc.out;simp only[Nat.add_sub_cancel] at this;rw[this,HY.out]
      have hm4:(m':Int)=64*(m:Int)+y-128:=by rw[←hm1,hm3]
      have H3:=AJ (AH hm1 hc3);clear hm1 hc3 hm3;have D:=AJ hd;clear hd hcb;have H4:=AJ hm4;clear hm4;go_wp2_with(go_at_call 141;refine(aN _ _ _ _).mono ?_;rintro e w1 ⟨rfl,rfl⟩;rw[D.out]);go_roundg(3-(j+1));case measure=>omega
      case rel=>exact⟨j+1,m',by omega,by omega,(by rw[H4.out]),by go_num,rfl,hm2,H3.out.1,H3.out.2,rfl⟩
     ·have hd:decide ((128:Int)≤y∧(y:Int)≤191)=false:=by unfold dm at hcb;simp;omega
      have hr0:r=none:=by rw[R.out];exact om (j:=j) (by rw[List.length_drop];omega) hW.out hj1 hlt (by rw[HY.out];exact hcb)
      subst hr0;have D:=AJ hd;clear hd hcb;go_wp2_with(go_at_call 141;refine(aN _ _ _ _).mono ?_;rintro e w1 ⟨rfl,rfl⟩;rw[D.out]);refine bodyPost_ret (v:=.tuple #[.int .i64 0,.int .i64 0,.bool false]) (by simp[results,Tryz.results201,go_sem, *]<;>rfl) rfl ?_;exact⟨rfl,rfl⟩
    ·have e:j=3:=by omega
     subst e;have hfull:=l8 (by rw[List.length_drop];omega) hW.out (by rw[List.length_drop];omega) hcont.out;rw[hacc.out,Int.toNat_natCast] at hfull;by_cases hw:eM (m:Int)=3
     ·have hr0:r=some (m,3):=by rw[R.out];exact hfull.1 hw
      subst hr0;have HW2:=AJ hw;clear hfull hw;go_wp2_with(go_at_call 246;refine(cC _ _).mono ?_;rintro e w1 ⟨rfl,rfl⟩;rw[HW2.out]);refine bodyPost_ret (v:=.tuple #[.int .i64 (m:Int),.int .i64 (k+3),.bool true]) (by simp[results,Tryz.results201,go_sem, *]<;>rfl) rfl ?_;exact⟨by unfold sV;go_num,rfl⟩
     ·have hr0:r=none:=by rw[R.out];exact hfull.2 hw
      subst hr0;obtain⟨q,hq⟩: ∃q,q=eM (m:Int):=⟨_,rfl⟩;have hq2:((q:Int) != 3)=true:=by simp;omega
      have HW2:=AJ hq.symm;clear hfull hw hq;go_wp2_with(go_at_call 246;refine(cC _ _).mono ?_;rintro e w1 ⟨rfl,rfl⟩;rw[HW2.out]);refine bodyPost_ret (v:=.tuple #[.int .i64 0,.int .i64 0,.bool false]) (by simp[results,Tryz.results201,go_sem, *]<;>rfl) rfl ?_;exact⟨rfl,rfl⟩
 ·obtain⟨n0,hn0⟩: ∃n0,n0=x-240:=⟨_,rfl⟩;have hx1:240≤x:=by simp only[decide_eq_true_eq] at q3;omega
  rw[←hn0] at hh;have Q1:=AJ q1;clear q1;have Q2:=AJ q2;clear q2;have Q3:=AJ q3;clear q3;have hW:Hid (fh (bO (l.drop k) 0)=some (4,n0)):=by show _=_;rw[←hx0,hh]
  have HN0:=AJ hn0;clear hn0 hh hx0;have hnw:Hid (IntKind.i64.wrap ((x:Int)-240)=(n0:Int)):=by show _=_;rw[IntKind.wrap_i64];have:=HN0.out;omega
  by_cases hs:l.length-k<4
  ·have hr:gp (l.drop k)=none:=j8 (by rw[List.length_drop];omega) hW.out (by rw[List.length_drop];omega);rw[hr];have hs1:(l.length:Int)-k<4:=by omega
   clear hr hs;go_enter Tryz.func201,Tryz.ntmps201;go_wp2_with(go_at_call 141;refine(aN _ _ _ _).mono ?_;rintro e w1 ⟨rfl,rfl⟩;first|rw[Q1.out]|rw[Q2.out]|rw[Q3.out]);all_goals first|(refine bodyPost_ret (v:=.tuple #[.int .i64 0,.int .i64 0,.bool false]) (by simp[results,Tryz.results201,go_sem, *]<;>rfl) rfl ?_;exact⟨rfl,rfl⟩)|(exfalso;omega)
  ·have hs1: ¬((l.length:Int)-k<4):=by omega
   have hs2:k+4≤l.length:=by omega
   obtain⟨r,hr⟩: ∃r,r=gp (l.drop k):=⟨_,rfl⟩;rw[←hr];have R:=AJ hr;clear hr hs;go_enter Tryz.func201,Tryz.ntmps201;go_wp2_with(go_at_call 141;refine(aN _ _ _ _).mono ?_;rintro e w1 ⟨rfl,rfl⟩;first|rw[Q1.out]|rw[Q2.out]|rw[Q3.out]);go_loopg[9,10] 3 (fun gk nn i wr=> ∃(j m:Nat),1≤j∧j≤4∧nn=.int .i64 (m:Int)∧i=.int .i64 (j:Int)∧gk=4-j∧m<2097152∧Hid (dX (l.drop k) n0 (j-1)=m)∧Hid (∀i,1≤i→i<j→dm (bO (l.drop k) i))∧wr=w);case atStart=>exact⟨1,n0,by omega,by omega,(by have h1:=HN0.out;rw[show(x:Int)-240=(n0:Int) by omega]),rfl,by omega,by have:=HN0.out;omega,rfl,fun i h1 h2=>by omega,rfl⟩
   case round=>
    obtain⟨j,m,hj1,hjW,rfl,rfl,rfl,hm,hacc,hcont,rfl⟩:=hrel;by_cases hlt:j<4
    ·have hkj:k+j<l.length:=by omega
     obtain⟨b2,off2,hA2,hb2,hc2⟩:=E.out.byte_at hkj;injection hA2 with hA2;injection hA2 with e1 e2;subst e1 e2;have hjj:((j:Int)<4):=by omega
     obtain⟨y,hy⟩: ∃y,y=(l[k+j]).toNat:=⟨_,rfl⟩;have hy2:bO (l.drop k) j=y:=by rw[hy];exact kD l k j hkj
     have hyl:y<256:=by rw[hy];exact(l[k+j]).toNat_lt
     rw[←hy] at hc2;have HY:=AJ hy2;clear hy hy2;by_cases hcb:dm y
     ·have hd:decide ((128:Int)≤y∧(y:Int)≤191)=true:=by unfold dm at hcb;simp;omega
      have hc3: ∀i,1≤i→i<j+1→dm (bO (l.drop k) i):=fun i h1 h2=>by rcases Nat.lt_or_ge i j with h|h;(·exact hcont.out i h1 h);·rw[show i=j by omega,HY.out];exact hcb
      obtain⟨m',hm1,hm2⟩:=kd (j:=j) hW.out hlt (fun i h1 h2=>hc3 i h1 (by omega));have hm3:dX (l.drop k) n0 j=64*(m:Int)+y-128:=by obtain⟨q,rfl⟩: ∃q,j=q+1:=⟨j-1,by omega⟩;rw[dX];have:=hacc.out;simp only[Nat.add_sub_cancel] at this;rw[this,HY.out]
      have hm4:(m':Int)=64*(m:Int)+y-128:=by rw[←hm1,hm3]
      have H3:=AJ (AH hm1 hc3);clear hm1 hc3 hm3;have D:=AJ hd;clear hd hcb;have H4:=AJ hm4;clear hm4;go_wp2_with(go_at_call 141;refine(aN _ _ _ _).mono ?_;rintro e w1 ⟨rfl,rfl⟩;rw[D.out]);go_roundg(4-(j+1));case measure=>omega
      case rel=>exact⟨j+1,m',by omega,by omega,(by rw[H4.out]),by go_num,rfl,hm2,H3.out.1,H3.out.2,rfl⟩
     ·have hd:decide ((128:Int)≤y∧(y:Int)≤191)=false:=by unfold dm at hcb;simp;omega
      have hr0:r=none:=by rw[R.out];exact om (j:=j) (by rw[List.length_drop];omega) hW.out hj1 hlt (by rw[HY.out];exact hcb)
      subst hr0;have D:=AJ hd;clear hd hcb;go_wp2_with(go_at_call 141;refine(aN _ _ _ _).mono ?_;rintro e w1 ⟨rfl,rfl⟩;rw[D.out]);refine bodyPost_ret (v:=.tuple #[.int .i64 0,.int .i64 0,.bool false]) (by simp[results,Tryz.results201,go_sem, *]<;>rfl) rfl ?_;exact⟨rfl,rfl⟩
    ·have e:j=4:=by omega
     subst e;have hfull:=l8 (by rw[List.length_drop];omega) hW.out (by rw[List.length_drop];omega) hcont.out;rw[hacc.out,Int.toNat_natCast] at hfull;by_cases hw:eM (m:Int)=4
     ·have hr0:r=some (m,4):=by rw[R.out];exact hfull.1 hw
      subst hr0;have HW2:=AJ hw;clear hfull hw;go_wp2_with(go_at_call 246;refine(cC _ _).mono ?_;rintro e w1 ⟨rfl,rfl⟩;rw[HW2.out]);refine bodyPost_ret (v:=.tuple #[.int .i64 (m:Int),.int .i64 (k+4),.bool true]) (by simp[results,Tryz.results201,go_sem, *]<;>rfl) rfl ?_;exact⟨by unfold sV;go_num,rfl⟩
     ·have hr0:r=none:=by rw[R.out];exact hfull.2 hw
      subst hr0;obtain⟨q,hq⟩: ∃q,q=eM (m:Int):=⟨_,rfl⟩;have hq2:((q:Int) != 4)=true:=by simp;omega
      have HW2:=AJ hq.symm;clear hfull hw hq;go_wp2_with(go_at_call 246;refine(cC _ _).mono ?_;rintro e w1 ⟨rfl,rfl⟩;rw[HW2.out]);refine bodyPost_ret (v:=.tuple #[.int .i64 0,.int .i64 0,.bool false]) (by simp[results,Tryz.results201,go_sem, *]<;>rfl) rfl ?_;exact⟨rfl,rfl⟩
 ·have hr:gp (l.drop k)=none:=oG (by rw[List.length_drop];omega) (by rw[←hx0];exact hh);rw[hr];have HH:=AJ (AH hx0 hh);clear hx0 hh hr;have Q1:=AJ q1;have Q2:=AJ q2;have Q3:=AJ q3;clear q1 q2 q3;go_enter Tryz.func201,Tryz.ntmps201;go_wp2_with(go_at_call 141;refine(aN _ _ _ _).mono ?_;rintro e w1 ⟨rfl,rfl⟩;first|rw[Q1.out]|rw[Q2.out]|rw[Q3.out]);refine bodyPost_ret (v:=.tuple #[.int .i64 0,.int .i64 0,.bool false]) (by simp[results,Tryz.results201,go_sem, *]<;>rfl) rfl ?_;exact⟨rfl,rfl⟩
def qF(k n x:Int)(s:ByteArray):Prop:=(k=3→aV n x=true)∧(k=6→aV n x=true)∧(k=4→bh n x=true)∧s.size≤1048576
def rZ(f k:Int):Prop:=(k=3∧f=4)∨(k=6∧(f=2∨f=3∨f=4))
def ua(f k:Int):Prop:=(k=4→f≠1)∧(k=3→f≠4)∧(k=5∨k=8→f=2∨f=3)∧(k=6→f=1)
theorem nQ{f k:Int}(h:rZ f k)(n x:Int)(s:ByteArray):bZ f ⟨k,n,x,s,[]⟩=aB n x:=by
 unfold bZ;rcases h with⟨rfl,rfl⟩|⟨rfl,rfl|rfl|rfl⟩<;>simp
theorem nK{f k:Int}(h:ua f k)(hf:f=1∨f=2∨f=3∨f=4)(n x:Int)(s:ByteArray):bZ f ⟨k,n,x,s,[]⟩=(⟨k,n,x,s,[]⟩,0):=by
 obtain⟨h4,h3,h58,h6⟩:=h;unfold bZ bn;simp only[decide_eq_true_eq];rw[if_neg (fun e=>h3 e.1 e.2),if_neg (fun e=>by have:=h6 e.1;omega),if_neg (fun e=>h4 e.1 e.2),if_neg (fun e=>by have:=h58 (.inl e.1);omega),if_neg (fun e=>by have:=h58 (.inr e.1);omega)]
theorem pJ{f k:Int}(hf:f=1∨f=2∨f=3∨f=4):ua f k∨rZ f k∨(k=4∧f=1)∨(k=5∧(f=1∨f=4))∨(k=8∧(f=1∨f=4)):=by
 unfold ua rZ;omega
theorem ca(way:Int)(hw:1≤way∧way≤4)(w:World):Calls Tryz.prog 147 #[.int .i64 way] w (j4 w (.bool (bn way))):=by
 have h4:way=1∨way=2∨way=3∨way=4:=by omega
 clear hw;rcases h4 with rfl|rfl|rfl|rfl;all_goals go_enter Tryz.func147,Tryz.ntmps147;go_wp2_with fail;go_ret;exact⟨rfl,rfl⟩
theorem lG(f k n x:Int)(s:ByteArray)(A:Option Addr)(c:Nat)(w:World)(hf:f=1∨f=2∨f=3∨f=4)(hk:ua f k)(hI:bq ⟨k,n,x,s,[]⟩)(hs:s.size≤1048576)(hx:SA w ([]:List aa) A c):Calls Tryz.prog 238 #[.int .i64 f,.agg #[.int .i64 k,.int .i64 n,.int .i64 x,.string s,.slice A 0 c]] w (il w (⟨k,n,x,s,[]⟩:aa) (.int .i64 0)):=by
 have B0:=AJ (ab (ab (ae w) (.cells #[.int .i64 k,.int .i64 n,.int .i64 x,.string s,.slice A 0 c] 27)) (.cells #[.int .i64 0,.int .i64 0,.int .i64 0,.string .empty,.slice none 0 0] 27));have Z0:=AJ (ai.at (w:=w.alloc (.cells #[.int .i64 k,.int .i64 n,.int .i64 x,.string s,.slice A 0 c] 27)) (g:=w.heap.size+1) (t:=27) (cs:=#[.int .i64 0,.int .i64 0,.int .i64 0,.string .empty,.slice none 0 0]) (by simp));have HH:=AJ (AH hI (AH hs hx));clear hI hs hx;unfold ua at hk;cases b3:(k==3)<;>cases b4:(k==4)<;>cases b5:(k==5)<;>cases b6:(k==6)<;>cases b8:(k==8)<;>rcases hf with rfl|rfl|rfl|rfl;all_goals try(exfalso;simp only[beq_iff_eq,beq_eq_false_iff_ne,ne_eq] at b3 b4 b5 b6 b8;omega)
 all_goals
  clear hk;go_enter Tryz.func238,Tryz.ntmps238;go_wp2_with fail;try(refine(ca _ (by omega) _).mono ?_;rintro e w0 ⟨rfl,rfl⟩;(first|rw[show bn 2=false from rfl]|rw[show bn 3=false from rfl]);go_wp2_with fail)
  refine(jh ⟨k,n,x,s,[]⟩ A c _ (by rw[av];simp[bulkVals];exact HH.out.2.1) HH.out.1 (HH.out.2.2.below B0.out)).mono ?_;rintro e w1 ⟨A1,c1,rfl,hsf,hb⟩;have Z1:=AJ (Z0.out.below hb);have HB:=AJ (AH (ak B0.out hb) hsf);clear hb hsf;obtain⟨f0,f1,f2,f3,f4,p0,p1,p2,p3,p4,hzz⟩:=Z1.out.z5;go_wp2_with fail;refine bodyPost_ret (v:=.tuple #[.agg #[.int .i64 k,.int .i64 n,.int .i64 x,.string s,.slice A1 0 c1],.int .i64 0]) (by simp[results,Tryz.results238,go_sem, *]) rfl ?_;refine⟨A1,c1,rfl,?_,cE HB.out.1 (by omega) _ _ _ _ _⟩;exact(SB.bE HB.out.2.sb (by simp) _ _ _ _ _).mono (by simp;omega)
theorem lJ(f k n x:Int)(s:ByteArray)(A:Option Addr)(c:Nat)(w:World)(hk:k=5∧(f=1∨f=4))(hI:bq ⟨k,n,x,s,[]⟩)(hs:s.size≤1048576)(hx:SA w ([]:List aa) A c):Calls Tryz.prog 238 #[.int .i64 f,.agg #[.int .i64 k,.int .i64 n,.int .i64 x,.string s,.slice A 0 c]] w (il w iR (.int .i64 4)):=by
 have B0:=AJ (ab (ab (ae w) (.cells #[.int .i64 k,.int .i64 n,.int .i64 x,.string s,.slice A 0 c] 27)) (.cells #[.int .i64 0,.int .i64 0,.int .i64 0,.string .empty,.slice none 0 0] 27));have Z0:=AJ (ai.at (w:=w.alloc (.cells #[.int .i64 k,.int .i64 n,.int .i64 x,.string s,.slice A 0 c] 27)) (g:=w.heap.size+1) (t:=27) (cs:=#[.int .i64 0,.int .i64 0,.int .i64 0,.string .empty,.slice none 0 0]) (by simp));have HH:=AJ (AH hI (AH hs hx));clear hI hs hx;rcases hk with⟨rfl,rfl|rfl⟩
 all_goals
  go_enter Tryz.func238,Tryz.ntmps238;go_wp2_with fail;try(refine(ca _ (by omega) _).mono ?_;rintro e w0 ⟨rfl,rfl⟩;(first|rw[show bn 1=true from rfl]|rw[show bn 4=true from rfl]);go_wp2_with fail)
  refine bodyPost_ret (v:=.tuple #[.agg #[.int .i64 1,.int .i64 0,.int .i64 0,.string {data:=#[]},.slice none 0 0],.int .i64 4]) (by simp[results,Tryz.results238,go_sem, *]) rfl ?_;exact⟨none,0,rfl,SB.nil _ _,by first|exact ab (ab (ae w) _) _|exact cE B0.out (by omega) _ _ _ _ _⟩
theorem nh(f k n x:Int)(s:ByteArray)(A:Option Addr)(c:Nat)(w:World)(hk:k=8∧(f=1∨f=4))(hI:bq ⟨k,n,x,s,[]⟩)(hs:s.size≤1048576)(hx:SA w ([]:List aa) A c):Calls Tryz.prog 238 #[.int .i64 f,.agg #[.int .i64 k,.int .i64 n,.int .i64 x,.string s,.slice A 0 c]] w (il w (iI (mJ s)) (.int .i64 5)):=by
 have B0:=AJ (ab (ab (ae w) (.cells #[.int .i64 k,.int .i64 n,.int .i64 x,.string s,.slice A 0 c] 27)) (.cells #[.int .i64 0,.int .i64 0,.int .i64 0,.string .empty,.slice none 0 0] 27));have Z0:=AJ (ai.at (w:=w.alloc (.cells #[.int .i64 k,.int .i64 n,.int .i64 x,.string s,.slice A 0 c] 27)) (g:=w.heap.size+1) (t:=27) (cs:=#[.int .i64 0,.int .i64 0,.int .i64 0,.string .empty,.slice none 0 0]) (by simp));have HH:=AJ (AH hI (AH hs hx));clear hI hs hx;rcases hk with⟨rfl,rfl|rfl⟩
 all_goals
  go_enter Tryz.func238,Tryz.ntmps238;go_wp2_with fail;try(refine(ca _ (by omega) _).mono ?_;rintro e w0 ⟨rfl,rfl⟩;(first|rw[show bn 1=true from rfl]|rw[show bn 4=true from rfl]);go_wp2_with fail)
  refine(mM s _ HH.out.2.1).mono ?_;rintro e w1 ⟨rfl,hb⟩;have Z1:=AJ (Z0.out.below hb);have HB:=AJ (ak B0.out hb);clear hb;go_wp2_with fail;refine(iA (mJ s) _).mono ?_;rintro e w2 ⟨rfl,hb⟩;have Z2:=AJ (Z1.out.below hb);have HB2:=AJ (ak HB.out hb);clear hb;obtain⟨f0,f1,f2,f3,f4,p0,p1,p2,p3,p4,hzz⟩:=Z2.out.z5;unfold aW;go_wp2_with fail;refine bodyPost_ret (v:=.tuple #[.agg #[.int .i64 7,.int .i64 0,.int .i64 0,.string (mJ s),.slice none 0 0],.int .i64 5]) (by simp[results,Tryz.results238,go_sem, *]) rfl ?_;exact⟨none,0,rfl,SB.nil _ _,cE HB2.out (by omega) _ _ _ _ _⟩
theorem mL(f k n x:Int)(s:ByteArray)(A:Option Addr)(c:Nat)(w:World)(hk:k=4∧f=1)(hok:bh n x=true)(hI:bq ⟨k,n,x,s,[]⟩)(hs:s.size≤1048576)(hx:SA w ([]:List aa) A c):Calls Tryz.prog 238 #[.int .i64 f,.agg #[.int .i64 k,.int .i64 n,.int .i64 x,.string s,.slice A 0 c]] w (il w (b9 (aI n x).1 (aI n x).2) (.int .i64 1)):=by
 have B0:=AJ (ab (ab (ae w) (.cells #[.int .i64 k,.int .i64 n,.int .i64 x,.string s,.slice A 0 c] 27)) (.cells #[.int .i64 0,.int .i64 0,.int .i64 0,.string .empty,.slice none 0 0] 27));have Z0:=AJ (ai.at (w:=w.alloc (.cells #[.int .i64 k,.int .i64 n,.int .i64 x,.string s,.slice A 0 c] 27)) (g:=w.heap.size+1) (t:=27) (cs:=#[.int .i64 0,.int .i64 0,.int .i64 0,.string .empty,.slice none 0 0]) (by simp));have HH:=AJ (AH hI (AH hs hx));clear hI hs hx;have HK:=AJ hok;clear hok;obtain⟨rfl,rfl⟩:=hk;go_enter Tryz.func238,Tryz.ntmps238;go_wp2_with fail;refine(fQ n x _ HK.out).mono ?_;rintro e w1 ⟨rfl,hb⟩;unfold ow;have Z1:=AJ (Z0.out.below hb);have HB:=AJ (ak B0.out hb);clear hb;go_wp2_with fail;refine(kR (aI n x).1 (aI n x).2 _).mono ?_;rintro e w2 ⟨rfl,hb⟩;have Z2:=AJ (Z1.out.below hb);have HB2:=AJ (ak HB.out hb);clear hb;obtain⟨f0,f1,f2,f3,f4,p0,p1,p2,p3,p4,hzz⟩:=Z2.out.z5;unfold aW;obtain⟨u,hu⟩: ∃u,u=b9 (aI n x).1 (aI n x).2:=⟨_,rfl⟩;have hul:u.l=[]∧u.s={data:=#[]}:=by rw[hu];unfold b9;split<;>exact⟨rfl,rfl⟩
 rw[←hu];have HU:=AJ (AH hul hu);clear hul hu;go_wp2_with fail;refine bodyPost_ret (v:=.tuple #[.agg #[.int .i64 u.kind,.int .i64 u.n,.int .i64 u.x,.string {data:=#[]},.slice none 0 0],.int .i64 1]) (by simp[results,Tryz.results238,go_sem, *]) rfl ?_;rw[←HU.out.2];refine⟨none,0,?_,?_,cE HB2.out (by omega) _ _ _ _ _⟩;·unfold eT;rw[HU.out.1.1,HU.out.1.2];rfl
 ·rw[HU.out.1.1];exact SB.nil _ _
theorem l7(f k n x:Int)(s:ByteArray)(A:Option Addr)(c:Nat)(w:World)(hk:rZ f k)(hok:aV n x=true)(hI:bq ⟨k,n,x,s,[]⟩)(hs:s.size≤1048576)(hx:SA w ([]:List aa) A c):Calls Tryz.prog 238 #[.int .i64 f,.agg #[.int .i64 k,.int .i64 n,.int .i64 x,.string s,.slice A 0 c]] w (il w (aB n x).1 (.int .i64 (aB n x).2)):=by
 have B0:=AJ (ab (ab (ae w) (.cells #[.int .i64 k,.int .i64 n,.int .i64 x,.string s,.slice A 0 c] 27)) (.cells #[.int .i64 0,.int .i64 0,.int .i64 0,.string .empty,.slice none 0 0] 27));have Z0:=AJ (ai.at (w:=w.alloc (.cells #[.int .i64 k,.int .i64 n,.int .i64 x,.string s,.slice A 0 c] 27)) (g:=w.heap.size+1) (t:=27) (cs:=#[.int .i64 0,.int .i64 0,.int .i64 0,.string .empty,.slice none 0 0]) (by simp));have HH:=AJ (AH hI (AH hs hx));clear hI hs hx;have HK:=AJ hok;clear hok;rcases hk with⟨rfl,rfl⟩|⟨rfl,rfl|rfl|rfl⟩
 all_goals
  go_enter Tryz.func238,Tryz.ntmps238;go_wp2_with fail;refine(qv _ n x s A 0 c _ HK.out).mono ?_;rintro e w1 ⟨rfl,hb⟩;have Z1:=AJ (Z0.out.below hb);have HB:=AJ (ak B0.out hb);clear hb;obtain⟨f0,f1,f2,f3,f4,p0,p1,p2,p3,p4,hzz⟩:=Z1.out.z5;unfold aW;go_wp2_with fail;refine bodyPost_ret (v:=.tuple #[.agg #[.int .i64 (aB n x).1.kind,.int .i64 (aB n x).1.n,.int .i64 (aB n x).1.x,.string {data:=#[]},.slice none 0 0],.int .i64 (aB n x).2]) (by simp[results,Tryz.results238,go_sem, *]) rfl ?_;refine⟨none,0,?_,?_,cE HB.out (by omega) _ _ _ _ _⟩;·unfold eT aB;split<;>rfl
  ·have:(aB n x).1.l=[]:=by unfold aB;split<;>rfl
   rw[this];exact SB.nil _ _
theorem iv(way:Int)(hw:1≤way∧way≤4)(v:aa)(A:Option Addr)(c:Nat)(w:World)(hI:bq v)(hl:v.l=[])(hp:qF v.kind v.n v.x v.s)(hx:SA w v.l A c):Calls Tryz.prog 238 #[.int .i64 way,.agg #[.int .i64 v.kind,.int .i64 v.n,.int .i64 v.x,.string v.s,.slice A v.l.length c]] w (il w (bZ way v).1 (.int .i64 (bZ way v).2)):=by
 obtain⟨k,n,x,s,l⟩:=v;simp only at hl hp hx;subst hl;obtain⟨h3,h6,h4,hs⟩:=hp;have hf:way=1∨way=2∨way=3∨way=4:=by omega
 rcases pJ (k:=k) hf with hk|hk|hk|hk|hk;·rw[nK hk hf];exact lG way k n x s A c w hf hk hI hs hx
 ·rw[nQ hk];exact l7 way k n x s A c w hk (by rcases hk with h|h;exact h3 h.1;exact h6 h.1) hI hs hx
 ·have h:=mL way k n x s A c w hk (h4 hk.1) hI hs hx;obtain⟨rfl,rfl⟩:=hk;exact h
 ·have h:=lJ way k n x s A c w hk hI hs hx;obtain⟨rfl,rfl|rfl⟩:=hk<;>exact h
 ·have h:=nh way k n x s A c w hk hI hs hx;obtain⟨rfl,rfl|rfl⟩:=hk<;>exact h
def gQ(w:World)(v:Value)(e:Ending)(w':World):Prop:=e=.returned v∧ ∃n,w'=w.drewN n
theorem gQ.ret{w w':World}{v:Value}{e:Ending}(h:gQ w v e w'):bW w v e w':=by
 obtain⟨h1,n,rfl⟩:=h;exact⟨h1,below_drewN (ae w) n⟩
theorem yV{P:Program}{f:FuncId}{args:Array Value}{w:World}{v:Value}(h: ∀n,Calls P f args (w.drewN n) (gQ (w.drewN n) v))(n:Nat):Calls P f args (w.drewN n) fun e w''=>e=.returned v∧ ∃m,w''=w.drewN m:=Calls.quiet_of (h n)
theorem iV(w:World)(a b:Nat): ∃n,(w.drewN a).drewN b=w.drewN n:=⟨a+b,by rw[World.drewN_drewN]⟩
theorem ug:Tryz.prog.underlying 86=some (.struct (Tryz.prog.fieldsOf 86)):=by
 kernel_rfl
theorem vZ:Tryz.prog.stoodInHeld 86=false:=by
 kernel_rfl
theorem sF(x y:GStep)(w:World):(binOp .neq 86 (.agg #[.int .i64 x.at_,.bool x.name]) (.agg #[.int .i64 y.at_,.bool y.name])).run Tryz.prog w=.ok (.bool (!(decide (x=y)))) w:=by
 have e:decide (x=y)=(decide (x.at_=y.at_)&&decide (x.name=y.name)):=by cases x;cases y;simp
 rw[e];generalize x.at_=a;generalize y.at_=b;generalize x.name=m;generalize y.name=n;simp only[binOp];simp[Op.equal,Op.maxDepth,run_equalIn_struct w 9999 86 _ _ ug vZ,go_sem];by_cases h1:a=b<;>by_cases h2:m=n<;>simp[h1,h2]
theorem dv{x y:GStep}(h:x=y)(w:World):(binOp .neq 86 (.agg #[.int .i64 x.at_,.bool x.name]) (.agg #[.int .i64 y.at_,.bool y.name])).run Tryz.prog w=.ok (.bool false) w:=by
 rw[sF,decide_eq_true h];rfl
theorem cY{x y:GStep}(h:x≠y)(w:World):(binOp .neq 86 (.agg #[.int .i64 x.at_,.bool x.name]) (.agg #[.int .i64 y.at_,.bool y.name])).run Tryz.prog w=.ok (.bool true) w:=by
 rw[sF,decide_eq_false h];rfl
theorem ng(xs ys:List GStep)(A A':Option Addr)(c c':Nat)(w:World)(hx:SA w xs A c)(hy:SA w ys A' c'):Calls Tryz.prog 96 #[.slice A xs.length c,.slice A' ys.length c'] w (gQ w (.bool (decide (xs=ys)))):=by
 obtain⟨r,hr⟩: ∃r,r=decide (xs=ys):=⟨_,rfl⟩;rw[←hr];have R:=AJ hr;clear hr;have hl:xs.length≤9223372036854775807:=by have:=hx.len;unfold maxLen at this;omega
 have hl':ys.length≤9223372036854775807:=by have:=hy.len;unfold maxLen at this;omega
 have E:=AJ (AH hx hy);clear hx hy;by_cases he:xs.length=ys.length
 ·have he':((xs.length:Int) != ys.length)=false:=by simp[he]
  have HE:=AJ he;clear he;go_enter Tryz.func96,Tryz.ntmps96;go_wp2_with fail;go_loopg[5] xs.length (fun gk i wr=> ∃k:Nat,k≤xs.length∧i=.int .i64 k∧gk=xs.length-k∧Hid (xs.take k=ys.take k)∧ ∃n,wr=w.drewN n);case atStart=>exact⟨0,by omega,rfl,by omega,rfl,0,rfl⟩
  case round=>
   obtain⟨k,hk,rfl,rfl,hT,nd,rfl⟩:=hrel;by_cases hlt:k<xs.length
   ·obtain⟨b,off,rfl,hb,hI,k0,k1⟩:=E.out.1.df hlt;have hlt':k<ys.length:=HE.out▸hlt;obtain⟨b',off',rfl,hb',hI',k0',k1'⟩:=E.out.2.df hlt';have hi1:(k:Int)<xs.length:=by omega
    have hi2:(k:Int)<ys.length:=by omega
    have hi3:(0:Int)≤k:=by omega
    rcases Decidable.em (xs[k]=ys[k]) with hq|hq
    ·have hne:=dv (x:=xs[k]) (y:=ys[k]) hq;have HQ:=AJ hq;clear hq;go_wp2_with fail;go_quiet(fail);go_wp2_with fail;go_roundg(xs.length-(k+1));case measure=>omega
     case rel=>exact⟨k+1,by omega,by go_num,rfl,gW hlt hlt' hT.out HQ.out,by first|exact⟨_,rfl⟩|exact iV _ _ _⟩
    ·have hne:=cY (x:=xs[k]) (y:=ys[k]) hq;have HQ:=AJ hq;clear hq;go_wp2_with fail;go_quiet(fail);go_wp2_with fail;go_ret;exact⟨by rw[R.out,decide_eq_false (fun h=>HQ.out (by subst h;rfl))];rfl,by first|exact⟨_,rfl⟩|exact iV _ _ _⟩
   ·have e:k=xs.length:=by omega
    go_wp2_with fail;go_ret;exact⟨by rw[R.out,decide_eq_true (ja e HE.out hT.out)];rfl,_,rfl⟩
 ·have he':((xs.length:Int) != ys.length)=true:=by simp;omega
  go_enter Tryz.func96,Tryz.ntmps96;go_wp2_with fail;go_ret;exact⟨by rw[R.out,decide_eq_false (fun h=>he (by rw[h]))];rfl,0,rfl⟩
theorem o9(xs ys:List GStep)(A A':Option Addr)(c c':Nat)(w:World)(hx:SA w xs A c)(hy:SA w ys A' c'):Calls Tryz.prog 95 #[.slice A xs.length c,.slice A' ys.length c'] w (gQ w (.bool (decide (xs=ys)))):=by
 obtain⟨r,hr⟩: ∃r,r=decide (xs=ys):=⟨_,rfl⟩;rw[←hr];have R:=AJ hr;clear hr;have hl:xs.length≤9223372036854775807:=by have:=hx.len;unfold maxLen at this;omega
 have hl':ys.length≤9223372036854775807:=by have:=hy.len;unfold maxLen at this;omega
 have E:=AJ (AH hx hy);clear hx hy;by_cases he:xs.length=ys.length
 ·have he':((xs.length:Int) != ys.length)=false:=by simp[he]
  have HE:=AJ he;clear he;go_enter Tryz.func95,Tryz.ntmps95;go_wp2_with fail;go_loopg[13] xs.length (fun gk i wr=> ∃k:Nat,k≤xs.length∧i=.int .i64 k∧gk=xs.length-k∧Hid (xs.take k=ys.take k)∧ ∃n,wr=w.drewN n);case atStart=>exact⟨0,by omega,rfl,by omega,rfl,0,rfl⟩
  case round=>
   obtain⟨k,hk,rfl,rfl,hT,nd,rfl⟩:=hrel;by_cases hlt:k<xs.length
   ·obtain⟨b,off,rfl,hb,hI,k0,k1⟩:=E.out.1.df hlt;have hlt':k<ys.length:=HE.out▸hlt;obtain⟨b',off',rfl,hb',hI',k0',k1'⟩:=E.out.2.df hlt';have hi1:(k:Int)<xs.length:=by omega
    have hi2:(k:Int)<ys.length:=by omega
    have hi3:(0:Int)≤k:=by omega
    rcases Decidable.em (xs[k]=ys[k]) with hq|hq
    ·have hne:=dv (x:=xs[k]) (y:=ys[k]) hq;have HQ:=AJ hq;clear hq;go_wp2_with fail;go_quiet(fail);go_wp2_with fail;go_roundg(xs.length-(k+1));case measure=>omega
     case rel=>exact⟨k+1,by omega,by go_num,rfl,gW hlt hlt' hT.out HQ.out,by first|exact⟨_,rfl⟩|exact iV _ _ _⟩
    ·have hne:=cY (x:=xs[k]) (y:=ys[k]) hq;have HQ:=AJ hq;clear hq;go_wp2_with fail;go_quiet(fail);go_wp2_with fail;go_ret;exact⟨by rw[R.out,decide_eq_false (fun h=>HQ.out (by subst h;rfl))];rfl,by first|exact⟨_,rfl⟩|exact iV _ _ _⟩
   ·have e:k=xs.length:=by omega
    go_wp2_with fail;go_ret;exact⟨by rw[R.out,decide_eq_true (ja e HE.out hT.out)];rfl,_,rfl⟩
 ·have he':((xs.length:Int) != ys.length)=true:=by simp;omega
  go_enter Tryz.func95,Tryz.ntmps95;go_wp2_with fail;go_ret;exact⟨by rw[R.out,decide_eq_false (fun h=>he (by rw[h]))];rfl,0,rfl⟩
theorem SA.take{α:Type}[aD α]{w:World}{l:List α}{A:Option Addr}{c:Nat}(h:SA w l A c)(k:Nat)(hk:k≤l.length):SA w (l.take k) A c∧(l.take k).length=k:=by
 obtain⟨F,⟨h1,h2,h3⟩,hF⟩:=h;refine⟨?_,by simp;omega⟩;rcases h3 with⟨rfl,rfl,hz⟩|⟨b,off,F',xs,hA,rfl,he,hc⟩;·exact⟨[],⟨by simp,h2,.inl ⟨by simp,rfl,hz⟩⟩,by simp⟩
 ·rw[←List.take_append_drop k l] at he;obtain⟨F1,F2,x1,x2,rfl,rfl,he1,_⟩:=he.split;refine⟨b::F1,⟨by simp;omega,h2,.inr ⟨b,off,F1,x1,hA,rfl,he1,fun j v hj=> ?_⟩⟩,fun x hx=>hF x ?_⟩;·exact hc j v (by rw[List.getElem?_append_left (List.getElem?_eq_some_iff.1 hj).1];exact hj)
  ·simp only[List.mem_cons,List.mem_append] at hx ⊢;rcases hx with rfl|hx;·exact .inl rfl
   ·exact .inr (.inl hx)
end Go.Proofs.YtodpdjehjllhdaaGreatDoor
