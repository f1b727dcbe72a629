/- Part of a proof: contracts and plain laws. -/
import Derived.Test.YtodpdjehjllhdaaGreatDoorZ25
import Derived.Lib.SliceRun
set_option linter.unusedVariables false
set_option maxRecDepth 100000
set_option maxHeartbeats 20000000
namespace Go.Proofs.YtodpdjehjllhdaaGreatDoor
open Go.RowKit
def SymM(n:Nat):Prop:= ∀(l P X Y S:List ag)(a m b:Nat),l=P++X++Y++S→P.length=a→X.length=m-a→Y.length=b-m→a<m→m<b→b-a≤n→bU ak X→bU ak Y→l.length≤1048576→ ∀(base g c:Nat)(w:World),bc base w g c l→Calls Tryz.prog 254 #[.slice (some ⟨g,0,none⟩) l.length c,.int .i64 (a:Int),.int .i64 (m:Int),.int .i64 (b:Int),.func (.func 157) #[] #[]] w (fun e w'=>e=.returned (.tuple #[])∧ ∃Z,(bU ak Z∧Z.Perm (X++Y))∧bc base w' g c (P++Z++S)∧Kept [g] w w')
theorem nK(n:Nat)(IH:SymM n)(l P X Y S:List ag)(a m b:Nat)(he:l=P++X++Y++S)(hP:P.length=a)(hX:X.length=m-a)(hY:Y.length=b-m)(ham:a<m)(hmb:m<b)(hn:b-a≤n+1)(hm1:m≠a+1)(hb1:b≠m+1)(sX:bU ak X)(sY:bU ak Y)(hl:l.length≤1048576)(base g c:Nat)(w:World)(h:bc base w g c l)(hcf: ∀(a:Array Value)(w:World),(callFunc 157 a).run Tryz.prog w=.ok (.enter 157 a) w):Calls Tryz.prog 254 #[.slice (some ⟨g,0,none⟩) l.length c,.int .i64 (a:Int),.int .i64 (m:Int),.int .i64 (b:Int),.func (.func 157) #[] #[]] w (fun e w'=>e=.returned (.tuple #[])∧ ∃Z,(bU ak Z∧Z.Perm (X++Y))∧bc base w' g c (P++Z++S)∧Kept [g] w w'):=by
 have hln:l.length=a+(m-a)+(b-m)+S.length:=by rw[he];simp;omega
 obtain⟨N,hN⟩: ∃N,N=l.length:=⟨_,rfl⟩;rw[←hN] at hln hl ⊢;have hbN:b≤N:=by omega
 obtain⟨k,hk⟩: ∃k,k=(a+b)/2:=⟨_,rfl⟩;obtain⟨s0,r0,ms1,ms2,ms3,ms4,ms5,ms6,ms7,ms8,ms9⟩:=xF (k:=k) ham hmb (by omega) (by omega) hm1 hb1;have hka:a<k:=by omega
 have hkb:k<b:=by omega
 have hki:((a:Int)+(b:Int))/2=(k:Int):=by omega
 have HE:=xQ (xP he (xP hP (xP hX (xP sX (xP hN (xP hY sY))))));have HR:=xQ h;have HI:=xQ IH;have HS9:=xQ ms9;have HS78:=xQ (xP ms7 ms8);have hw0:IntKind.i64.wrap ((m:Int)-(a:Int))=(m:Int)-(a:Int):=by rw[IntKind.wrap_i64];omega
 have hw1:IntKind.i64.wrap ((b:Int)-(m:Int))=(b:Int)-(m:Int):=by rw[IntKind.wrap_i64];omega
 have hw2:((m:Int)-(a:Int)==1)=false:=by simp;omega
 have hw3:((b:Int)-(m:Int)==1)=false:=by simp;omega
 have hw4:IntKind.i64.wrap ((k:Int)+(m:Int))=(k:Int)+(m:Int):=by rw[IntKind.wrap_i64];omega
 have hw5:IntKind.i64.wrap ((k:Int)+(m:Int)-1)=(k:Int)+(m:Int)-1:=by rw[IntKind.wrap_i64];omega
 have hw6:IntKind.i64.wrap ((k:Int)+(m:Int)-(b:Int))=(k:Int)+(m:Int)-(b:Int):=by rw[IntKind.wrap_i64];omega
 clear he hP hX hY sX sY hN h hln IH hk ms9 ms7 ms8;go_enter Tryz.func254,Tryz.ntmps254;go_upto_if 140 with fail;go_cut[20,21] (fun s20 s21 wx=>s20=.int .i64 (s0:Int)∧s21=.int .i64 (r0:Int)∧Hid (bc base wx g c l∧Kept [g] w wx))
 case first=>
  rcases HS9.out with⟨q1,q2,q3⟩|⟨q1,q2,q3⟩
  ·have q4:(k:Int)<(m:Int):=by omega
   go_wp2_with fail;go_meet;exact⟨by rw[q2],by rw[q3],xQ ⟨HR.out,Kept.refl _ _⟩⟩
  ·have q4: ¬(k:Int)<(m:Int):=by omega
   go_wp2_with fail;go_meet;exact⟨by rw[q2],by rw[q3],xQ ⟨HR.out,Kept.refl _ _⟩⟩
 case rest=>
  obtain⟨rfl,rfl,HQ0⟩:=hcut;go_wp2_with fail;go_loopg[20,21] (r0-s0) (fun gk s20 s21 wr=> ∃s r:Nat,s20=.int .i64 (s:Int)∧s21=.int .i64 (r:Int)∧s0≤s∧s≤r∧r≤r0∧gk=r-s∧Hid ((s=a∨m+k-s=b∨ak (l.getD (m+k-s) default) (l.getD (s-1) default)=false)∧(r=m∨m+k-r=m∨ak (l.getD (m+k-r-1) default) (l.getD r default)=true)∧bc base wr g c l∧Kept [g] w wr));case atStart=>exact⟨s0,r0,rfl,rfl,by omega,by omega,by omega,rfl,xQ ⟨by rcases HS78.out.1 with h|h<;>simp[h],by rcases HS78.out.2 with h|h<;>simp[h],HQ0.out.1,HQ0.out.2⟩⟩
  case round=>
   obtain⟨i,j,rfl,rfl,h1,h2,h3,rfl,HQ⟩:=hrel;by_cases hlt:i<j
   ·have hlt':(i:Int)<j:=by omega
    obtain⟨H,hH⟩: ∃H,H=(i+j)/2:=⟨_,rfl⟩;have hH1:i≤H:=by omega
    have hH2:H<j:=by omega
    have hHi:((i:Int)+(j:Int))/2=(H:Int):=by omega
    obtain⟨J,hJ⟩: ∃J,J=m+k-H-1:=⟨_,rfl⟩;have hJi:(k:Int)+(m:Int)-1-(H:Int)=(J:Int):=by omega
    have hJw:IntKind.i64.wrap ((k:Int)+(m:Int)-1-(H:Int))=(J:Int):=by rw[IntKind.wrap_i64];omega
    have hJw2:IntKind.i64.wrap (J:Int)=(J:Int):=by rw[IntKind.wrap_i64];omega
    have hJN:J<N:=by omega
    have HHJ:=xQ (xP hH hJ);clear hH hJ;go_wp2_with fail;clear hHi;have hk1:(0:Int)≤H:=by omega
    have hk2:(H:Int)<N:=by omega
    have hk3:(0:Int)≤J:=by omega
    have hk4:(J:Int)<N:=by omega
    obtain⟨X1,A1,c1,hX1,hS1,x0,x1⟩:=HQ.out.2.2.1.wS (i:=J) (by rw[←HE.out.2.2.2.2.1];omega);obtain⟨X2,A2,c2,hX2,hS2,y0,y1⟩:=HQ.out.2.2.1.wS (i:=H) (by rw[←HE.out.2.2.2.2.1];omega);obtain⟨r,hr⟩: ∃r,r=eO X1 X2:=⟨_,rfl⟩;have hlt2:=gz X1 X2;rw[←hr] at hlt2;have hgl:=HQ.out.2.2.1.lt;have HX:=xQ (xP hr (xP hlt2 (xP hX1 hX2)));clear hr hlt2 hX1 hX2;have HS:=xQ (xP hS1 (xP hS2 True.intro));clear hS1 hS2;go_region_held3(fun u=>u.cell? ⟨g,J*2,none⟩=some (.int .i64 X1.kind)∧u.cell? ⟨g,J*2+1,none⟩=some (.slice A1 X1.p.length c1)∧u.cell? ⟨g,H*2,none⟩=some (.int .i64 X2.kind)∧u.cell? ⟨g,H*2+1,none⟩=some (.slice A2 X2.p.length c2)) (go_keep) (first|(go_at_call 157;(refine(cA X1 X2 A1 A2 c1 c2 _ (by first|exact HS.out.1|exact HS.out.1.drew) (by first|exact HS.out.2.1|exact HS.out.2.1.drew)).mono ?_;rintro e w3 ⟨rfl,hb3⟩;rw[←HX.out.1];have HB3:=xQ (xP (show Below wr.heap.size wr w3 from(by first|exact hb3|exact al (af wr).drew hb3)) True.intro);have zx0:=(HB3.out.1.cell (p:=⟨g,_,none⟩) hgl).trans x0;have zx1:=(HB3.out.1.cell (p:=⟨g,_,none⟩) hgl).trans x1;have zy0:=(HB3.out.1.cell (p:=⟨g,_,none⟩) hgl).trans y0;have zy1:=(HB3.out.1.cell (p:=⟨g,_,none⟩) hgl).trans y1;clear hb3)))
    all_goals
     obtain⟨d,hd⟩: ∃d,d=decide (r<0):=⟨_,rfl⟩;rw[←hd];have HD:=xQ hd;clear hd;cases d;rotate_left
     ·have hnb:=HD.out.symm;go_wp2_with fail;go_roundg(H-i);case measure=>omega
      case rel=>refine⟨i,H,rfl,by first|rfl|go_num,by omega,by omega,by omega,rfl,xQ ⟨HQ.out.1,.inr (.inr ?_),HQ.out.2.2.1.below HB3.out.1,HQ.out.2.2.2.trans (Kept.ay HB3.out.1)⟩⟩;rw[←HHJ.out.2,←HX.out.2.2.1,←HX.out.2.2.2,←HX.out.2.1];exact hnb
     ·have hnb:=HD.out.symm;go_wp2_with fail;go_roundg(j-(H+1));case measure=>omega
      case rel=>refine⟨H+1,j,by first|rfl|go_num,rfl,by omega,by omega,by omega,rfl,xQ ⟨.inr (.inr ?_),HQ.out.2.1,HQ.out.2.2.1.below HB3.out.1,HQ.out.2.2.2.trans (Kept.ay HB3.out.1)⟩⟩;rw[show H+1-1=H by omega,show m+k-(H+1)=J by rw[HHJ.out.2];omega,←HX.out.2.2.1,←HX.out.2.2.2,←HX.out.2.1];exact hnb
   ·have e:i=j:=by omega
    subst e;obtain⟨e,hee⟩: ∃e,e=m+k-i:=⟨_,rfl⟩;have hei:(k:Int)+(m:Int)-(i:Int)=(e:Int):=by omega
    have hew:IntKind.i64.wrap ((k:Int)+(m:Int)-(i:Int))=(e:Int):=by rw[IntKind.wrap_i64];omega
    have hew2:IntKind.i64.wrap (e:Int)=(e:Int):=by rw[IntKind.wrap_i64];omega
    have has:a≤i:=by omega
    have hsm:i≤m:=by omega
    have hme:m≤e:=by omega
    have heb:e≤b:=by omega
    have hek:e-m=k-i:=by omega
    have hek2:e-k=m-i:=by omega
    have hik:i≤k:=by omega
    have hke:k≤e:=by omega
    rw[←hee] at HQ;clear h1 h2 h3 hlt hee ms1 ms2 ms3 ms4 ms5 ms6 HS9 HS78 HQ0;obtain⟨Z1,hZ1⟩: ∃Z1,Z1=X.take (i-a)++Y.take (e-m):=⟨_,rfl⟩;obtain⟨Z2,hZ2⟩: ∃Z2,Z2=X.drop (i-a)++Y.drop (e-m):=⟨_,rfl⟩;have hl1:Z1.length=(i-a)+(k-i):=by rw[hZ1,List.length_append,List.length_take,List.length_take,HE.out.2.2.1,HE.out.2.2.2.2.2.1];omega
    have hl2:Z2.length=(e-k)+(b-e):=by rw[hZ2,List.length_append,List.length_drop,List.length_drop,HE.out.2.2.1,HE.out.2.2.2.2.2.1];omega
    have hlZ:(P++Z1++(Z2++S)).length=N:=by have h:=HE.out.2.2.2.2.1;rw[HE.out.1] at h;simp only[List.length_append] at h ⊢;rw[HE.out.2.2.1,HE.out.2.2.2.2.2.1] at h;omega
    have HZ:=xQ (xP hZ1 (xP hZ2 (xP hl1 (xP hl2 hlZ))));clear hZ1 hZ2 hl1 hl2 hlZ;have hii: ¬((i:Int)<(i:Int)):=by omega
    go_upto_region 39 with fail;go_cut[185] from 178 to 219 (fun s185 wx=>s185=.bool (decide (i<m∧m<e))∧Hid (bc base wx g c l∧Kept [g] w wx))
    case first=>
     by_cases hc1:i<m
     ·have q1:(i:Int)<(m:Int):=by omega
      by_cases hc2:m<e
      ·have q2:(m:Int)<(e:Int):=by omega
       have hd:decide (i<m∧m<e)=true:=by simp;omega
       go_wp2_with fail;go_meet;exact⟨by rw[hd],xQ ⟨HQ.out.2.2.1,HQ.out.2.2.2⟩⟩
      ·have q2: ¬((m:Int)<(e:Int)):=by omega
       have hd:decide (i<m∧m<e)=false:=by simp;omega
       go_wp2_with fail;go_meet;exact⟨by rw[hd],xQ ⟨HQ.out.2.2.1,HQ.out.2.2.2⟩⟩
     ·have q1: ¬((i:Int)<(m:Int)):=by omega
      have hd:decide (i<m∧m<e)=false:=by simp;omega
      go_wp2_with fail;go_meet;exact⟨by rw[hd],xQ ⟨HQ.out.2.2.1,HQ.out.2.2.2⟩⟩
    case rest=>
     obtain⟨hs185,HQr⟩:=hcut;obtain⟨B1,hB1⟩: ∃B1,B1=decide (i<m∧m<e):=⟨_,rfl⟩;rw[←hB1] at hs185;subst hs185;have HB1:=xQ hB1;clear hB1;go_upto_if 185 with fail;go_cut[24] from 178 to 219 (fun s24 wx=>s24=.int .i64 (e:Int)∧Hid (bc base wx g c (P++Z1++(Z2++S))∧Kept [g] w wx))
     case first=>
      cases B1
      ·have hc: ¬(i<m∧m<e):=of_decide_eq_false HB1.out.symm;have hrt:=uH (S:=S) HE.out.2.1 HE.out.2.2.1 HE.out.2.2.2.2.2.1 (by omega) has hsm hme heb hc;rw[←HE.out.1] at hrt;have hrow:bc base wc g c (P++Z1++(Z2++S)):=by rw[HZ.out.1,HZ.out.2.1,←List.append_assoc P,hrt];exact HQr.out.1
       have HW5:=xQ (xP hrow HQr.out.2);clear hrow hrt hc;go_wp2_with fail;go_meet;exact⟨rfl,xQ HW5.out⟩
      ·have hc:i<m∧m<e:=of_decide_eq_true HB1.out.symm;have hrt:=wG (S:=S) HE.out.2.1 HE.out.2.2.1 HE.out.2.2.2.2.2.1 (by omega) has hsm hme heb;rw[←HE.out.1] at hrt;have hcl:=fun w0 h0=>rS _ l i m e hc.1 hc.2 hrt (by rw[←HE.out.2.2.2.2.1];exact hl) (.func (.func 157) #[] #[]) base g c w0 h0;rw[←HE.out.2.2.2.2.1] at hcl;have HC:=xQ hcl;clear hcl hrt hc;go_wp2_with fail;refine(HC.out _ HQr.out.1).mono ?_;rintro e5 w5 ⟨rfl,hr5,hk5⟩;have HW5:=xQ (xP hr5 (HQr.out.2.trans hk5));clear hr5 hk5;go_wp2_with fail;go_meet;refine⟨rfl,xQ ⟨?_,HW5.out.2⟩⟩;rw[HZ.out.1,HZ.out.2.1,←List.append_assoc P];exact HW5.out.1
     case rest=>
      obtain⟨rfl,HQ1⟩:=hcut;have C1:=xQ (xP HQ.out.1 HQ.out.2.1);clear HQ;go_upto_region 41 with fail;go_cut[199] from 178 to 219 (fun s199 wx=>s199=.bool (decide (a<i∧i<k))∧Hid (bc base wx g c (P++Z1++(Z2++S))∧Kept [g] w wx))
      case first=>
       by_cases hc1:a<i
       ·have q1:(a:Int)<(i:Int):=by omega
        by_cases hc2:i<k
        ·have q2:(i:Int)<(k:Int):=by omega
         have hd:decide (a<i∧i<k)=true:=by simp;omega
         go_wp2_with fail;go_meet;exact⟨by rw[hd],xQ HQ1.out⟩
        ·have q2: ¬((i:Int)<(k:Int)):=by omega
         have hd:decide (a<i∧i<k)=false:=by simp;omega
         go_wp2_with fail;go_meet;exact⟨by rw[hd],xQ HQ1.out⟩
       ·have q1: ¬((a:Int)<(i:Int)):=by omega
        have hd:decide (a<i∧i<k)=false:=by simp;omega
        go_wp2_with fail;go_meet;exact⟨by rw[hd],xQ HQ1.out⟩
      case rest=>
       obtain⟨hs199,HQs⟩:=hcut;obtain⟨B2,hB2⟩: ∃B2,B2=decide (a<i∧i<k):=⟨_,rfl⟩;rw[←hB2] at hs199;subst hs199;have HB2:=xQ hB2;clear hB2;go_upto_if 199 with fail;go_cut[24] from 178 to 219 (fun s24 wx=>s24=.int .i64 (e:Int)∧ ∃Z,Hid ((bU ak Z∧Z.Perm Z1)∧bc base wx g c (P++Z++(Z2++S))∧Kept [g] w wx))
       case first=>
        cases B2
        ·have hc: ¬(a<i∧i<k):=of_decide_eq_false HB2.out.symm;have hs1:bU ak Z1:=by rw[HZ.out.1];refine pS (jZ HE.out.2.2.2.1) (jZ HE.out.2.2.2.2.2.2) ?_;rw[List.length_take,List.length_take,HE.out.2.2.1,HE.out.2.2.2.2.2.1];omega
         have HW5:=xQ (xP (xP hs1 (List.Perm.refl Z1)) HQs.out);clear hs1 hc;go_wp2_with fail;go_meet;exact⟨rfl,Z1,xQ HW5.out⟩
        ·have hc:a<i∧i<k:=of_decide_eq_true HB2.out.symm;have hcl:=fun w0 h0=>HI.out (P++Z1++(Z2++S)) P (X.take (i-a)) (Y.take (e-m)) (Z2++S) a i k (by rw[HZ.out.1];simp) HE.out.2.1 (by rw[List.length_take,HE.out.2.2.1];omega) (by rw[List.length_take,HE.out.2.2.2.2.2.1];omega) hc.1 hc.2 (by omega) (jZ HE.out.2.2.2.1) (jZ HE.out.2.2.2.2.2.2) (by rw[HZ.out.2.2.2.2];exact hl) base g c w0 h0;rw[HZ.out.2.2.2.2] at hcl;have HC:=xQ hcl;clear hcl hc;go_wp2_with fail;refine(HC.out _ HQs.out.1).mono ?_;rintro e5 w5 ⟨rfl,Z,hz5,hr5,hk5⟩;rw[←HZ.out.1] at hz5;have HW5:=xQ (xP hz5 (xP hr5 (HQs.out.2.trans hk5)));clear hr5 hk5 hz5;go_wp2_with fail;go_meet;exact⟨rfl,Z,xQ HW5.out⟩
       case rest=>
        obtain⟨rfl,ZA,HQ2⟩:=hcut;have hlA:ZA.length=Z1.length:=HQ2.out.1.2.length_eq;have hlN:(P++ZA++(Z2++S)).length=N:=by have h:=HZ.out.2.2.2.2;simp only[List.length_append] at h ⊢;omega
        have HLA:=xQ (xP hlA hlN);clear hlA hlN;by_cases hc:k<e∧e<b
        ·have q1:(k:Int)<(e:Int):=by omega
         have q2:(e:Int)<(b:Int):=by omega
         have hcl:=fun w0 h0=>HI.out (P++ZA++(Z2++S)) (P++ZA) (X.drop (i-a)) (Y.drop (e-m)) S k e b (by rw[HZ.out.2.1];simp) (by rw[List.length_append,HLA.out.1,HZ.out.2.2.1,HE.out.2.1];omega) (by rw[List.length_drop,HE.out.2.2.1];omega) (by rw[List.length_drop,HE.out.2.2.2.2.2.1];omega) hc.1 hc.2 (by omega) (kn HE.out.2.2.2.1) (kn HE.out.2.2.2.2.2.2) (by rw[HLA.out.2];exact hl) base g c w0 h0;rw[HLA.out.2] at hcl;have HC:=xQ hcl;clear hcl;go_wp2_with fail;refine(HC.out _ HQ2.out.2.1).mono ?_;rintro e5 w5 ⟨rfl,Z,hz5,hr5,hk5⟩;have hM:=xr (Z1:=ZA) (Z2:=Z) (S:=S) HE.out.2.1 HE.out.2.2.1 HE.out.2.2.2.2.2.1 has hsm hme heb HE.out.2.2.2.1 HE.out.2.2.2.2.2.2 (by rw[←HE.out.1];exact C1.out.1) (by rw[←HE.out.1];exact C1.out.2) (by rw[←HZ.out.1];exact HQ2.out.1.2) hz5.2 HQ2.out.1.1 hz5.1;have HW5:=xQ (xP hM (xP hr5 (HQ2.out.2.2.trans hk5)));clear hr5 hk5 hz5 hM;go_wp2_with fail;refine bodyPost_end (v:=.tuple #[]) (by simp[results,Tryz.results254,go_sem]) rfl ?_;exact⟨rfl,ZA++Z,HW5.out.1,by have h:=HW5.out.2.1;simpa using h,HW5.out.2.2⟩
        ·have hs2:bU ak Z2:=by rw[HZ.out.2.1];refine pS (kn HE.out.2.2.2.1) (kn HE.out.2.2.2.2.2.2) ?_;rw[List.length_drop,List.length_drop,HE.out.2.2.1,HE.out.2.2.2.2.2.1];omega
         have hM:=xr (Z1:=ZA) (Z2:=Z2) (S:=S) HE.out.2.1 HE.out.2.2.1 HE.out.2.2.2.2.2.1 has hsm hme heb HE.out.2.2.2.1 HE.out.2.2.2.2.2.2 (by rw[←HE.out.1];exact C1.out.1) (by rw[←HE.out.1];exact C1.out.2) (by rw[←HZ.out.1];exact HQ2.out.1.2) (by rw[←HZ.out.2.1]) HQ2.out.1.1 hs2;have HW5:=xQ (xP hM HQ2.out.2);clear hM hs2;by_cases q1:(k:Int)<(e:Int)
         ·have q2: ¬((e:Int)<(b:Int)):=by omega
          go_wp2_with fail;refine bodyPost_end (v:=.tuple #[]) (by simp[results,Tryz.results254,go_sem]) rfl ?_;exact⟨rfl,ZA++Z2,HW5.out.1,by have h:=HW5.out.2.1;simpa using h,HW5.out.2.2⟩
         ·go_wp2_with fail;refine bodyPost_end (v:=.tuple #[]) (by simp[results,Tryz.results254,go_sem]) rfl ?_;exact⟨rfl,ZA++Z2,HW5.out.1,by have h:=HW5.out.2.1;simpa using h,HW5.out.2.2⟩
theorem ql(hcf: ∀(a:Array Value)(w:World),(callFunc 157 a).run Tryz.prog w=.ok (.enter 157 a) w): ∀n,SymM n|0=>fun l P X Y S a m b he hP hX hY ham hmb hn _ _ _ _ _ _ _ _=>absurd hn (by omega)|n+1=>fun l P X Y S a m b he hP hX hY ham hmb hn sX sY hl base g c w h=>by by_cases hm1:m=a+1;(·obtain⟨x,rfl⟩: ∃x,X=[x]:=List.length_eq_one_iff.1 (by omega);exact og l P Y S x a m b he hP hm1 hY hmb sY hl base g c w h hcf);·by_cases hb1:b=m+1;(·obtain⟨y,rfl⟩: ∃y,Y=[y]:=List.length_eq_one_iff.1 (by omega);exact nQ l P X S y a m b he hP hb1 hX ham hm1 sX hl base g c w h hcf);·exact nK n (ql hcf n) l P X Y S a m b he hP hX hY ham hmb hn hm1 hb1 sX sY hl base g c w h hcf
inductive Full (n : Nat) : List ag → Prop
  | nil : Full n []
  | snoc {D X : List ag} : Full n D → X.length = n → bU ak X → Full n (D ++ X)
inductive cW (n : Nat) : List ag → Prop
  | last {X : List ag} : X.length ≤ n → bU ak X → cW n X
  | cons {X R : List ag} : X.length = n → bU ak X → cW n R → cW n (X ++ R)
theorem Full.chunks{n:Nat}{D:List ag}(h:Full n D): ∀{R:List ag},cW n R→cW n (D++R):=by
 induction h with|nil=>intro R h;exact h|snoc _ h2 h3 ih=>intro R h;rw[List.append_assoc];exact ih (.cons h2 h3 h)
theorem cW.two{n:Nat}{R:List ag}(h:cW n R)(h2:2*n≤R.length)(hn:0<n): ∃X Y R',R=X++Y++R'∧X.length=n∧Y.length=n∧bU ak X∧bU ak Y∧cW n R':=by
 cases h with|last h3 h4=>omega| @cons X R h3 h4 h5=>rw[List.length_append] at h2;cases h5 with|last h6 h7=>exact⟨X,R,[],by simp,h3,by omega,h4,h7,.last (by simp) List.Pairwise.nil⟩| @cons Y R' h6 h7 h8=>exact⟨X,Y,R',by simp,h3,h6,h4,h7,h8⟩
theorem cW.end_{n:Nat}{R:List ag}(h:cW n R)(h2:R.length<2*n)(hn:0<n):(R.length≤n∧bU ak R)∨ ∃X Y,R=X++Y∧X.length=n∧bU ak X∧bU ak Y:=by
 cases h with|last h3 h4=>exact .inl ⟨h3,h4⟩| @cons X R h3 h4 h5=>rw[List.length_append] at h2;cases h5 with|last h6 h7=>exact .inr ⟨X,R,rfl,h3,h4,h7⟩| @cons Y R' h6 h7 h8=>rw[List.length_append] at h2;omega
theorem cW.xN{n:Nat}{R:List ag}(h:cW n R)(h2:R.length≤n)(hn:0<n):bU ak R:=by
 cases h with|last h3 h4=>exact h4| @cons X R h3 h4 h5=>rw[List.length_append] at h2;have:R=[]:=List.length_eq_zero_iff.1 (by omega);rw[this,List.append_nil];exact h4
theorem lz(X:List ag):bU ak (ao ak [] X)∧(ao ak [] X).Perm X∧(ao ak [] X).length=X.length:=by
 have h2:(ao ak [] X).Perm X:=by simpa using bS ak X []
 exact⟨fj cO.oZ X [] List.Pairwise.nil,h2,h2.length_eq⟩
theorem pq(N:Nat)(a b:Nat)(hab:b≤a)(ha:a≤1048576)(g c:Nat)(f:Value)(w:World):Calls Tryz.prog 253 #[.slice (some ⟨g,0,none⟩) N c,.int .i64 (a:Int),.int .i64 (b:Int),f] w (fun e w'=>e=.returned (.tuple #[])∧w'=w):=by
 have ha1:IntKind.i64.wrap ((a:Int)+1)=((a+1:Nat):Int):=by rw[IntKind.wrap_i64];omega
 go_enter Tryz.func253,Tryz.ntmps253;go_wp2_with fail;go_loopg[8] 0 (fun gk s8 wr=>s8=.int .i64 ((a+1:Nat):Int)∧wr=w);case atStart=>exact⟨by first|rfl|go_num,rfl⟩
 case round=>
  obtain⟨rfl,rfl⟩:=hrel;have hi2: ¬((a:Int)+1<(b:Int)):=by omega
  go_wp2_with fail;refine bodyPost_end (v:=.tuple #[]) (by simp[results,Tryz.results253,go_sem]) rfl ?_;exact⟨rfl,rfl⟩
theorem rW(l:List ag)(hl:l.length≤1048576)(base g c:Nat)(w:World)(h:bc base w g c l)(hcf: ∀(a:Array Value)(w:World),(callFunc 157 a).run Tryz.prog w=.ok (.enter 157 a) w):Calls Tryz.prog 214 #[.slice (some ⟨g,0,none⟩) l.length c,.int .i64 (l.length:Int),.func (.func 157) #[] #[]] w (fun e w'=>e=.returned (.tuple #[])∧ ∃Z,(bU ak Z∧Z.Perm l)∧bc base w' g c Z∧Kept [g] w w'):=by
 obtain⟨N,hN⟩: ∃N,N=l.length:=⟨_,rfl⟩;rw[←hN] at hl ⊢;have HR:=xQ (xP h hN);clear h hN;have HM:=xQ (ql hcf);go_enter Tryz.func214,Tryz.ntmps214;go_wp2_with fail;go_loopg[7,8] N (fun gk s7 s8 wr=> ∃(a:Nat) (D R:List ag),s7=.int .i64 (a:Int)∧s8=.int .i64 ((a:Int)+20)∧a≤N∧gk=N-a∧Hid (D.length=a∧D.length+R.length=N∧Full 20 D∧(D++R).Perm l∧bc base wr g c (D++R)∧Kept [g] w wr));case atStart=>exact⟨0,[],l,rfl,by first|rfl|go_num,by omega,by omega,xQ ⟨rfl,by simp[HR.out.2],.nil,by simp,by simpa using HR.out.1,Kept.refl _ _⟩⟩
 case round=>
  obtain⟨a,D,R,rfl,rfl,ha,rfl,HQ⟩:=hrel;have hlen:(D++R).length=N:=by rw[List.length_append];exact HQ.out.2.1
  have HL:=xQ hlen;clear hlen;by_cases hlt:a+20≤N
  ·have hlt':(a:Int)+20≤(N:Int):=by omega
   have hw1:IntKind.i64.wrap ((a:Int)+20+20)=(a:Int)+20+20:=by rw[IntKind.wrap_i64];omega
   have hc:=fun w0 h0=>lB (D++R) a (a+20) (by omega) (by rw[HL.out];omega) (by rw[HL.out];omega) base g c w0 h0 hcf;rw[HL.out,show((a+20:Nat):Int)=(a:Int)+20 by omega] at hc;have HC:=xQ hc;clear hc;go_wp2_with fail;refine(HC.out _ HQ.out.2.2.2.2.1).mono ?_;rintro e5 w5 ⟨rfl,hr5,hk5⟩;obtain⟨i1,i2,i3⟩:=lz (R.take 20);have hDa:=HQ.out.1;have hRl:R.length=N-a:=by have:=HQ.out.2.1;omega
   have e1:(D++R).take a++ao ak [] (((D++R).drop a).take (a+20-a))++(D++R).drop (a+20)=(D++ao ak [] (R.take 20))++R.drop 20:=by rw[←hDa,List.take_left,List.drop_left,show D.length+20-D.length=20 by omega,List.drop_append,List.drop_eq_nil_of_le (by omega),List.nil_append,show D.length+20-D.length=20 by omega]
   rw[e1] at hr5;have HW:=xQ (show(D++ao ak [] (R.take 20)).length=a+20∧(D++ao ak [] (R.take 20)).length+(R.drop 20).length=N∧Full 20 (D++ao ak [] (R.take 20))∧((D++ao ak [] (R.take 20))++R.drop 20).Perm l∧bc base w5 g c ((D++ao ak [] (R.take 20))++R.drop 20)∧Kept [g] w w5 from by refine⟨by rw[List.length_append,i3,List.length_take];omega,by rw[List.length_append,i3,List.length_take,List.length_drop];omega,.snoc HQ.out.2.2.1 (by rw[i3,List.length_take];omega) i1,?_,hr5,HQ.out.2.2.2.2.2.trans hk5⟩;refine List.Perm.trans ?_ HQ.out.2.2.2.1;rw[List.append_assoc];refine List.Perm.append_left D ?_;have:=i2.append_right (R.drop 20);rwa[List.take_append_drop] at this);clear hr5 hk5 i1 i2 i3 e1 hDa hRl;go_wp2_with fail;go_roundg(N-(a+20));case measure=>omega
   case rel=>exact⟨a+20,_,_,by first|rfl|go_num,by first|rfl|go_num,by omega,rfl,HW⟩
  ·have hlt': ¬((a:Int)+20≤(N:Int)):=by omega
   have hfin: ∀w0,bc base w0 g c (D++R)→Calls Tryz.prog 253 #[.slice (some ⟨g,0,none⟩) N c,.int .i64 (a:Int),.int .i64 (N:Int),.func (.func 157) #[] #[]] w0 (fun e w'=>e=.returned (.tuple #[])∧(∃Z,cW 20 Z∧Z.length=N∧Z.Perm l∧bc base w' g c Z)∧Kept [g] w0 w'):=fun w0 h0=>by have hDa:=HQ.out.1;(have hRl:R.length=N-a:=by have:=HQ.out.2.1;omega);by_cases han:a<N;(·have hc:=lB (D++R) a N han (by rw[HL.out];omega) (by rw[HL.out];omega) base g c w0 h0 hcf;rw[HL.out] at hc;refine hc.mono ?_;rintro e5 w5 ⟨rfl,hr5,hk5⟩;obtain⟨i1,i2,i3⟩:=lz R;(have e1:(D++R).take a++ao ak [] (((D++R).drop a).take (N-a))++(D++R).drop N=D++ao ak [] R:=by rw[←hDa,List.take_left,List.drop_left,List.take_of_length_le (by omega),List.drop_eq_nil_of_le (by rw[HL.out];omega),List.append_nil]);rw[e1] at hr5;refine⟨rfl,⟨_,HQ.out.2.2.1.chunks (.last (by rw[i3];omega) i1),by rw[List.length_append,i3];omega,?_,hr5⟩,hk5⟩;exact(i2.append_left D).trans HQ.out.2.2.2.1);·(have e:a=N:=by omega);have hR0:R=[]:=List.length_eq_zero_iff.1 (by omega);subst e;refine(pq a a a (Nat.le_refl _) (by omega) g c _ w0).mono ?_;rintro e5 w5 ⟨rfl,rfl⟩;refine⟨rfl,⟨D++R,?_,HL.out,HQ.out.2.2.2.1,h0⟩,Kept.refl _ _⟩;rw[hR0];exact HQ.out.2.2.1.chunks (.last (by simp) List.Pairwise.nil)
   have HF:=xQ hfin;clear hfin;go_wp2_with fail;refine(HF.out _ HQ.out.2.2.2.2.1).mono ?_;rintro e5 w5 ⟨rfl,⟨Z,hz1,hz2,hz3,hz4⟩,hk5⟩;have HW:=xQ (xP hz1 (xP hz2 (xP hz3 (xP hz4 (HQ.out.2.2.2.2.2.trans hk5)))));clear hz1 hz2 hz3 hz4 hk5;go_wp2_with fail;go_loopg[6] (N-20) (fun gk s6 wr=> ∃(bs:Nat) (L:List ag),s6=.int .i64 (bs:Int)∧0<bs∧bs≤4194304∧gk=N-bs∧Hid (cW bs L∧L.length=N∧L.Perm l∧bc base wr g c L∧Kept [g] w wr));case atStart=>exact⟨20,Z,rfl,by omega,by omega,rfl,HW⟩
   case round=>
    obtain⟨bs,L,rfl,hbs0,hbs1,rfl,HQ2⟩:=hrel;by_cases hlb:bs<N
    ·have hlb':(bs:Int)<(N:Int):=by omega
     have hw2:IntKind.i64.wrap (2*(bs:Int))=2*(bs:Int):=by rw[IntKind.wrap_i64];omega
     go_wp2_with fail;go_loopg[7,8] N (fun gk s7 s8 wr=> ∃(a:Nat) (D R:List ag),s7=.int .i64 (a:Int)∧s8=.int .i64 ((a:Int)+2*(bs:Int))∧a≤N∧gk=N-a∧Hid (D.length=a∧D.length+R.length=N∧Full (2*bs) D∧cW bs R∧(D++R).Perm l∧bc base wr g c (D++R)∧Kept [g] w wr));case atStart=>exact⟨0,[],L,rfl,by first|rfl|go_num,by omega,by omega,xQ ⟨rfl,by simp[HQ2.out.2.1],.nil,HQ2.out.1,by simpa using HQ2.out.2.2.1,by simpa using HQ2.out.2.2.2.1,HQ2.out.2.2.2.2⟩⟩
     case round=>
      obtain⟨a,D,R,rfl,rfl,ha,rfl,HQ⟩:=hrel;have hlen:(D++R).length=N:=by rw[List.length_append];exact HQ.out.2.1
      have HL:=xQ hlen;clear hlen;by_cases hlt:a+2*bs≤N
      ·have hlt':(a:Int)+2*(bs:Int)≤(N:Int):=by omega
       have hw3:IntKind.i64.wrap ((a:Int)+(bs:Int))=(a:Int)+(bs:Int):=by rw[IntKind.wrap_i64];omega
       have hw4:IntKind.i64.wrap ((a:Int)+2*(bs:Int)+2*(bs:Int))=(a:Int)+2*(bs:Int)+2*(bs:Int):=by rw[IntKind.wrap_i64];omega
       obtain⟨X,Y,R',hR,hXl,hYl,hXs,hYs,hR's⟩:=HQ.out.2.2.2.1.two (by have:=HQ.out.1;have:=HQ.out.2.1;omega) hbs0;have hc:=fun w0 h0=>HM.out (2*bs) (D++R) D X Y R' a (a+bs) (a+2*bs) (by rw[hR];simp) HQ.out.1 (by omega) (by omega) (by omega) (by omega) (by omega) hXs hYs (by rw[HL.out];exact hl) base g c w0 h0;rw[HL.out,show((a+bs:Nat):Int)=(a:Int)+(bs:Int) by omega,show((a+2*bs:Nat):Int)=(a:Int)+2*(bs:Int) by omega] at hc;have HC:=xQ (xP hc (xP hR (xP hXl (xP hYl hR's))));clear hc hR hXl hYl hXs hYs hR's;go_wp2_with fail;refine(HC.out.1 _ HQ.out.2.2.2.2.2.1).mono ?_;rintro e6 w6 ⟨rfl,Z2,hz,hr6,hk6⟩;have HW2:=xQ (show(D++Z2).length=a+2*bs∧(D++Z2).length+R'.length=N∧Full (2*bs) (D++Z2)∧cW bs R'∧(D++Z2++R').Perm l∧bc base w6 g c (D++Z2++R')∧Kept [g] w w6 from by have hzl:=hz.2.length_eq;rw[List.length_append] at hzl;have h1:=HQ.out.1;have h2:=HQ.out.2.1;rw[HC.out.2.1,List.length_append,List.length_append] at h2;have h3:=HC.out.2.2.1;have h4:=HC.out.2.2.2.1;refine⟨by rw[List.length_append];omega,by rw[List.length_append];omega,.snoc HQ.out.2.2.1 (by omega) hz.1,HC.out.2.2.2.2,?_,hr6,HQ.out.2.2.2.2.2.2.trans hk6⟩;refine List.Perm.trans ?_ HQ.out.2.2.2.2.1;rw[HC.out.2.1,List.append_assoc];exact List.Perm.append_left D (hz.2.append_right R'));clear hz hr6 hk6;go_wp2_with fail;go_roundg(N-(a+2*bs));case measure=>omega
       case rel=>exact⟨a+2*bs,_,_,by first|rfl|go_num,by first|rfl|go_num,by omega,rfl,HW2⟩
      ·have hlt': ¬((a:Int)+2*(bs:Int)≤(N:Int)):=by omega
       have hw3:IntKind.i64.wrap ((a:Int)+(bs:Int))=(a:Int)+(bs:Int):=by rw[IntKind.wrap_i64];omega
       have hw5:IntKind.i64.wrap ((bs:Int)*2)=(bs:Int)*2:=by rw[IntKind.wrap_i64];omega
       by_cases hmn:a+bs<N
       ·have hmn':(a:Int)+(bs:Int)<(N:Int):=by omega
        have hend: ∃X Y,R=X++Y∧X.length=bs∧bU ak X∧bU ak Y:=by rcases HQ.out.2.2.2.1.end_ (by have:=HQ.out.1;have:=HQ.out.2.1;omega) hbs0 with⟨h,_⟩|h;(·have:=HQ.out.1;have:=HQ.out.2.1;omega);·exact h
        obtain⟨X,Y,hR,hXl,hXs,hYs⟩:=hend;have hYl:Y.length=N-(a+bs):=by have h1:=HQ.out.1;have h2:=HQ.out.2.1;rw[hR,List.length_append] at h2;omega
        have hc:=fun w0 h0=>HM.out N (D++R) D X Y [] a (a+bs) N (by rw[hR];simp) HQ.out.1 (by omega) hYl (by omega) (by omega) (by omega) hXs hYs (by rw[HL.out];exact hl) base g c w0 h0;rw[HL.out,show((a+bs:Nat):Int)=(a:Int)+(bs:Int) by omega] at hc;have HC:=xQ (xP hc (xP hR (xP hXl hYl)));clear hc hR hXl hYl hXs hYs;go_wp2_with fail;refine(HC.out.1 _ HQ.out.2.2.2.2.2.1).mono ?_;rintro e6 w6 ⟨rfl,Z2,hz,hr6,hk6⟩;have HW2:=xQ (show cW (bs*2) (D++Z2)∧(D++Z2).length=N∧(D++Z2).Perm l∧bc base w6 g c (D++Z2)∧Kept [g] w w6 from by have hzl:=hz.2.length_eq;rw[List.length_append] at hzl;have h1:=HQ.out.1;have h3:=HC.out.2.2.1;have h4:=HC.out.2.2.2;rw[List.append_nil] at hr6;rw[Nat.mul_comm];refine⟨HQ.out.2.2.1.chunks (.last (by omega) hz.1),by rw[List.length_append];omega,?_,hr6,HQ.out.2.2.2.2.2.2.trans hk6⟩;refine List.Perm.trans ?_ HQ.out.2.2.2.2.1;rw[HC.out.2.1];exact List.Perm.append_left D hz.2);clear hz hr6 hk6;go_wp2_with fail;go_roundg(N-bs*2);case measure=>omega
        case rel=>exact⟨bs*2,_,by first|rfl|go_num,by omega,by omega,rfl,HW2⟩
       ·have hmn': ¬((a:Int)+(bs:Int)<(N:Int)):=by omega
        have HW2:=xQ (show cW (bs*2) (D++R)∧(D++R).length=N∧(D++R).Perm l∧bc base wr g c (D++R)∧Kept [g] w wr from by have h1:=HQ.out.1;have h2:=HQ.out.2.1;rw[Nat.mul_comm];exact⟨HQ.out.2.2.1.chunks (.last (by omega) (HQ.out.2.2.2.1.xN (by omega) hbs0)),HL.out,HQ.out.2.2.2.2.1,HQ.out.2.2.2.2.2.1,HQ.out.2.2.2.2.2.2⟩);go_wp2_with fail;go_roundg(N-bs*2);case measure=>omega
        case rel=>exact⟨bs*2,_,by first|rfl|go_num,by omega,by omega,rfl,HW2⟩
    ·have hlb': ¬((bs:Int)<(N:Int)):=by omega
     have HW2:=xQ (xP (HQ2.out.1.xN (by rw[HQ2.out.2.1];omega) hbs0) HQ2.out.2.2);go_wp2_with fail;refine bodyPost_end (v:=.tuple #[]) (by simp[results,Tryz.results214,go_sem]) rfl ?_;exact⟨rfl,L,⟨HW2.out.1,HW2.out.2.1⟩,HW2.out.2.2.1,HW2.out.2.2.2⟩
theorem SA.uP{α:Type}[aG α]{w:World}{l:List α}{c:Nat}(h:SA w l none c):l=[]∧c=0:=by
 obtain⟨F,⟨_,_,h3⟩,_⟩:=h;rcases h3 with⟨h4,_,h5⟩|⟨b,off,F',xs,hA,_⟩;·exact⟨h4,h5 rfl⟩
 ·cases hA
theorem du(p:List GStep)(A:Option Addr)(c:Nat)(w:World)(hn:p.length≤4194304)(hp:SA w p A c):Calls Tryz.prog 153 #[.slice A p.length c] w fun e w'=> ∃A' c',e=.returned (.slice A' p.length c')∧aC w' w.heap.size 86 (.slice A' p.length c') p∧Below w.heap.size w w':=by
 have q: ∀w,(binOp .eql 38 (.slice A p.length c) (.slice none 0 0)).run Tryz.prog w=.ok (.bool A.isNone) w:=fun w=>Lib.run_eql_slice_nil w _ _ A p.length c 0 0 Tryz.underlying38;cases A with|none=>obtain⟨rfl,rfl⟩:=hp.uP;clear q;have q: ∀w,(binOp .eql 38 (.slice none 0 0) (.slice none 0 0)).run Tryz.prog w=.ok (.bool true) w:=fun w=>Lib.run_eql_slice_nil w _ _ none 0 0 0 0 Tryz.underlying38;go_enter Tryz.func153,Tryz.ntmps153;go_wp2_with fail;go_ret;exact⟨none,0,rfl,aC.nN _ _ _,af w⟩|some a=>have E:=xQ hp;clear hp;go_enter Tryz.func153,Tryz.ntmps153;go_wp2_with(at_builtin;(refine az rfl _ _ 38 rfl (v:=.slice (some ⟨_,0,none⟩) 0 0) (u:=.slice (some a) p.length c) rfl rfl (aK ep 38 _ w.heap.size 86 (.agg #[.int .i64 0,.bool false]) 16 Tryz.underlying38 eG rfl (by decide) _ [] p (some a) c (aC.cX _ _ _ _ (by simp) (by omega)) (E.out.below (ab (af w) _)) (by simp;omega) (by simp;unfold maxLen;omega) (by simp)) ?_;rintro v1 w1 ⟨ho,hbl,hloc,hg⟩;rw[List.nil_append] at ho;obtain⟨A1,c1,rfl⟩:=ho.form;have HO:=xQ (xP ho hbl);clear ho hbl hloc hg));go_ret;exact⟨A1,c1,rfl,HO.out.1,(ab (af w) _).trans HO.out.2⟩
theorem SA.sA(w:World)(s:GStep)(hI:aX s.at_):SA (w.alloc (.cells #[.int .i64 s.at_,.bool s.name] 86)) [s] (some ⟨w.heap.size,0,none⟩) 1:=by
 refine⟨[w.heap.size],⟨by simp,by unfold maxLen;omega,.inr ⟨w.heap.size,0,[],[.int .i64 s.at_,.bool s.name],rfl,rfl,⟨[],[],[.int .i64 s.at_,.bool s.name],[],rfl,rfl,⟨rfl,rfl,hI⟩,rfl,rfl⟩,?_⟩⟩,by simp⟩;intro j v hj;have hc:=aJ (w:=w) (t:=86) (g:=w.heap.size) [.int .i64 s.at_,.bool s.name] rfl j v hj;have e1:(⟨w.heap.size,0,none⟩:Addr).add j=⟨w.heap.size,0+j,none⟩:=by unfold Addr.add;split;(·rename_i h;subst h;rfl);·simp
 rw[e1] at hc;exact hc
theorem SA.uW(w:World)(s:GStep)(hI:aX s.at_)(g:Nat)(hg:g=w.heap.size):SA (w.alloc (.cells #[.int .i64 s.at_,.bool s.name] 86)) [s] (some ⟨g,0,none⟩) 1:=hg▸SA.sA w s hI
theorem fX(p:List GStep)(s:GStep)(A:Option Addr)(c:Nat)(w:World)(hn:p.length≤1048576)(hI:aX s.at_)(hp:SA w p A c):Calls Tryz.prog 152 #[.slice A p.length c,.agg #[.int .i64 s.at_,.bool s.name]] w (vH w (p++[s])):=by
 have B0:=xQ (ab (af w) (.cells #[.int .i64 s.at_,.bool s.name] 86));have P0:=xQ (ah.new w 86 #[.int .i64 s.at_,.bool s.name]);have E:=xQ (xP (hp.below B0.out) hI);clear hp hI;go_enter Tryz.func152,Tryz.ntmps152;go_wp2_with fail;go_region_held3(fun u=>u.cell? ⟨w.heap.size,0,none⟩=some (.int .i64 s.at_)∧u.cell? ⟨w.heap.size,1,none⟩=some (.bool s.name)) (go_keep) (first|(go_at_call 153;(refine(du p A c _ (by omega) (by first|exact E.out.1.drew|exact(E.out.1.below (ab (af _) _)).drew|exact E.out.1)).mono ?_;rintro e w1 ⟨A1,c1,rfl,ho,hb⟩;have P1:=xQ (show ah w1 w.heap.size 86 #[.int .i64 s.at_,.bool s.name] from(by first|exact P0.out.drew.below hb|exact(P0.out.alloc _).drew.below hb|exact P0.out.below hb));have HB1:=xQ (show Below w.heap.size w w1 from(by first|exact al B0.out.drew hb|exact al (ab B0.out _).drew hb|exact al B0.out hb));have hz9:=hb.size;have HO1:=xQ (show aC w1 (w.heap.size+1) 86 (.slice A1 p.length c1) p from ho.mono (by simp));(first|(have HL:=xQ (SA.below (SA.drew (SA.uW (w.alloc (.cells #[.int .i64 s.at_,.bool s.name] 86)) s E.out.2 (w.heap.size+1) (by simp))) hb))|(have HL:=xQ True.intro));clear ho hb;obtain⟨k0,k1⟩:=P1.out.c2;have hz1:=P1.out.lt))|((have hfirst:=HO1.out;clear hfirst;apply aN (s:=.tmp 6) (x:=.tmp 8) (t:=38) (v:=.slice A1 p.length c1) (u:=.slice (some ⟨_,0,none⟩) 1 1);(try case hgd=>exact rfl);(try case ho=>exact rfl);(try case hs=>exact rfl);(try case hx=>exact rfl);(case hrun=>exact aK (P:=Tryz.prog) ep 38 38 (w.heap.size+1) 86 (.agg #[.int .i64 0,.bool false]) 16 Tryz.underlying38 eG rfl (by decide) _ p [s] _ _ (by first|exact HO1.out.below (ab (af w1) _)|exact HO1.out) (by first|exact SA.sA w1 s E.out.2|exact HL.out) (by simp;omega) (by unfold maxLen;simp;omega) (by first|omega|(simp;omega)));rintro v2 w2 ⟨ho,hbl,_,_⟩;have P2:=xQ (show ah w2 w.heap.size 86 #[.int .i64 s.at_,.bool s.name] from(by first|exact P1.out.aI hbl (by omega)|exact(P1.out.alloc (.cells #[.int .i64 s.at_,.bool s.name] 86)).aI hbl (by omega)));have HO2:=xQ (xP ho (show Below w.heap.size w w2 from(by first|exact HB1.out.trans (hbl.mono (by omega))|exact(al HB1.out (ab (af w1) _)).trans (hbl.mono (by omega)))));obtain⟨q0,q1⟩:=P2.out.c2;have hz2:=P2.out.lt;clear ho hbl)));all_goals go_wp2_with fail;obtain⟨A3,c3,rfl⟩:=HO2.out.1.form;go_ret;exact⟨A3,c3,rfl,(HO2.out.1.mono (by omega)).sf.2.sb,HO2.out.2⟩
end Go.Proofs.YtodpdjehjllhdaaGreatDoor
