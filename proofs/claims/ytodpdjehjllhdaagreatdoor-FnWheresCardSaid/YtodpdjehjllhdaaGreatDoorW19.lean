/- Part of a proof: contracts and plain laws. -/
import Derived.Test.YtodpdjehjllhdaaGreatDoorW18
set_option linter.unusedVariables false
set_option linter.unusedSimpArgs false
set_option maxRecDepth 100000
set_option maxHeartbeats 20000000
namespace Go.Proofs.YtodpdjehjllhdaaGreatDoor
open Go.RowKit
theorem pt(l P Y S:List ag)(x:ag)(a m b:Nat)(he:l=P++[x]++Y++S)(hP:P.length=a)(hm:m=a+1)(hY:Y.length=b-m)(hmb:m<b)(sY:cB ao Y)(hl:l.length≤1048576)(base g c:Nat)(w:World)(h:bj base w g c l)(hcf: ∀(a:Array Value)(w:World),(callFunc 157 a).run Tryz.prog w=.ok (.enter 157 a) w):Calls Tryz.prog 254 #[.slice (some ⟨g,0,none⟩) l.length c,.int .i64 (a:Int),.int .i64 (m:Int),.int .i64 (b:Int),.func (.func 157) #[] #[]] w (fun e w'=>e=.returned (.tuple #[])∧ ∃Z,(cB ao Z∧Z.Perm ([x]++Y))∧bj base w' g c (P++Z++S)∧Kept [g] w w'):=by
 have hln:l.length=a+1+(b-m)+S.length:=by rw[he];simp;omega
 have hxa:l.getD a default=x:=by rw[he,show P++[x]++Y++S=P++x::(Y++S) by simp];exact gH hP
 obtain⟨N,hN⟩: ∃N,N=l.length:=⟨_,rfl⟩;rw[←hN] at hln hl ⊢;have hbN:b≤N:=by omega
 have HE:=AJ (AH he (AH hP (AH hY (AH sY (AH hN hxa)))));have HR:=AJ h;have hw1:IntKind.i64.wrap ((m:Int)-(a:Int))=1:=by rw[IntKind.wrap_i64];omega
 have ham:a<m:=by omega
 have HM:=AJ hm;clear he hP hY sY hN hxa h hln hm;go_enter Tryz.func254,Tryz.ntmps254;go_wp2_with fail;go_loopg[10,11] (b-m) (fun gk s10 s11 wr=> ∃i j:Nat,s10=.int .i64 (i:Int)∧s11=.int .i64 (j:Int)∧m≤i∧i≤j∧j≤b∧gk=j-i∧Hid ((i=m∨ao (l.getD (i-1) default) x=true)∧(j=b∨ao (l.getD j default) x=false)∧bj base wr g c l∧Kept [g] w wr));case atStart=>exact⟨m,b,rfl,rfl,by omega,by omega,by omega,rfl,AJ ⟨.inl rfl,.inl rfl,HR.out,Kept.refl _ _⟩⟩
 case round=>
  obtain⟨i,j,rfl,rfl,h1,h2,h3,rfl,HQ⟩:=hrel;by_cases hlt:i<j
  ·have hlt':(i:Int)<j:=by omega
   obtain⟨H,hH⟩: ∃H,H=(i+j)/2:=⟨_,rfl⟩;have hH1:i≤H:=by omega
   have hH2:H<j:=by omega
   have hHi:((i:Int)+(j:Int))/2=(H:Int):=by omega
   clear hH;go_wp2_with fail;clear hHi;have hk1:(0:Int)≤H:=by omega
   have hk2:(H:Int)<N:=by omega
   have hk3:(0:Int)≤a:=by omega
   have hk4:(a:Int)<N:=by omega
   obtain⟨X1,A1,c1,hX1,hS1,x0,x1⟩:=HQ.out.2.2.1.zk (i:=H) (by rw[←HE.out.2.2.2.2.1];omega);obtain⟨X2,A2,c2,hX2,hS2,y0,y1⟩:=HQ.out.2.2.1.zk (i:=a) (by rw[←HE.out.2.2.2.2.1];omega);obtain⟨r,hr⟩: ∃r,r=fq X1 X2:=⟨_,rfl⟩;have hlt2:=gX X1 X2;rw[←hr] at hlt2;have hgl:=HQ.out.2.2.1.lt;have HX:=AJ (AH hr (AH hlt2 (AH hX1 hX2)));clear hr hlt2 hX1 hX2;have HS:=AJ (AH hS1 (AH hS2 True.intro));clear hS1 hS2;go_region_held3(fun u=>u.cell? ⟨g,H*2,none⟩=some (.int .i64 X1.kind)∧u.cell? ⟨g,H*2+1,none⟩=some (.slice A1 X1.p.length c1)∧u.cell? ⟨g,a*2,none⟩=some (.int .i64 X2.kind)∧u.cell? ⟨g,a*2+1,none⟩=some (.slice A2 X2.p.length c2)) (go_keep) (first|(go_at_call 157;(refine(cN X1 X2 A1 A2 c1 c2 _ (by first|exact HS.out.1|exact HS.out.1.drew) (by first|exact HS.out.2.1|exact HS.out.2.1.drew)).mono ?_;rintro e w3 ⟨rfl,hb3⟩;rw[←HX.out.1];have HB3:=AJ (AH (show Below wr.heap.size wr w3 from(by first|exact hb3|exact ak (ae wr).drew hb3)) True.intro);have zx0:=(HB3.out.1.cell (p:=⟨g,_,none⟩) hgl).trans x0;have zx1:=(HB3.out.1.cell (p:=⟨g,_,none⟩) hgl).trans x1;have zy0:=(HB3.out.1.cell (p:=⟨g,_,none⟩) hgl).trans y0;have zy1:=(HB3.out.1.cell (p:=⟨g,_,none⟩) hgl).trans y1;clear hb3)))
   all_goals
    by_cases hneg:r<0
    ·go_wp2_with fail;go_roundg(j-(H+1));case measure=>omega
     case rel=>refine⟨H+1,j,by first|rfl|go_num,rfl,by omega,by omega,by omega,rfl,AJ ⟨.inr ?_,HQ.out.2.1,HQ.out.2.2.1.below HB3.out.1,HQ.out.2.2.2.trans (Kept.aA HB3.out.1)⟩⟩;rw[show H+1-1=H by omega,←HX.out.2.2.1,←HE.out.2.2.2.2.2,←HX.out.2.2.2,←HX.out.2.1];exact decide_eq_true hneg
    ·go_wp2_with fail;go_roundg(H-i);case measure=>omega
     case rel=>refine⟨i,H,rfl,by first|rfl|go_num,by omega,by omega,by omega,rfl,AJ ⟨HQ.out.1,.inr ?_,HQ.out.2.2.1.below HB3.out.1,HQ.out.2.2.2.trans (Kept.aA HB3.out.1)⟩⟩;rw[←HX.out.2.2.1,←HE.out.2.2.2.2.2,←HX.out.2.2.2,←HX.out.2.1];exact decide_eq_false (by omega)
  ·have e:i=j:=by omega
   subst e;have hZ:=Aj (P:=P) (Y:=Y) (S:=S) (x:=x) (m:=m) (b:=b) (i:=i) (by rw[HE.out.2.1];exact HM.out.symm) HE.out.2.2.1 h1 h3 HE.out.2.2.2.1 (by rw[←HE.out.1];exact HQ.out.1) (by rw[←HE.out.1];exact HQ.out.2.1);obtain⟨I,hI⟩: ∃I,I=i-m:=⟨_,rfl⟩;rw[←hI] at hZ;have hIY:I≤b-m:=by omega
   have him:i=m+I:=by omega
   have HZ:=AJ hZ;clear hZ hI;have hrow0:bj base wr g c (eB P Y S x 0):=by(have e:eB P Y S x 0=l:=by unfold eB;rw[HE.out.1];simp);rw[e];exact HQ.out.2.2.1
   have HK:=AJ (AH hrow0 HQ.out.2.2.2);clear hrow0 HQ;have hij: ¬((i:Int)<(i:Int)):=by omega
   have hiw:IntKind.i64.wrap ((i:Int)-1)=(a:Int)+(I:Int):=by rw[IntKind.wrap_i64];have:=HM.out;omega
   subst him;clear h2 hlt h1;go_wp2_with fail;go_loopg[13] I (fun gk s13 wx=> ∃k:Nat,s13=.int .i64 ((a+k:Nat):Int)∧k≤I∧gk=I-k∧Hid (bj base wx g c (eB P Y S x k)∧Kept [g] w wx));case atStart=>exact⟨0,by simp,by omega,by omega,AJ HK.out⟩
   case round=>
    obtain⟨k,rfl,hk,rfl,HK2⟩:=hrel;by_cases hlk:k<I
    ·obtain⟨K,hK⟩: ∃K,K=a+k:=⟨_,rfl⟩;have hkY:k<Y.length:=by rw[HE.out.2.2.1];omega
     have hlen:(eB P Y S x k).length=N:=by rw[HE.out.2.2.2.2.1,HE.out.1];unfold eB;simp;omega
     have hsw:kg (eB P Y S x k) K (K+1)=eB P Y S x (k+1):=by rw[←lM P Y S x hkY,ju P Y S x hkY];exact vp (by rw[List.length_append,List.length_take,HE.out.2.1];omega) rfl
     obtain⟨X1,X2,A1,A2,c1,c2,⟨x0,x1⟩,⟨y0,y1⟩,hrow2,hk2,⟨fx0,fx1⟩,⟨fy0,fy1⟩⟩:=HK2.out.1.swp (i:=K) (j:=K+1) (by omega) (by omega);rw[hsw] at hrow2;have HW:=AJ (AH hrow2 (HK2.out.2.trans hk2));clear hrow2 hk2 hsw hlen hkY;have hN: ∀l':List ag,l'.length=N→True:=fun _ _=>trivial;rw[←hK];have hq1:(K:Int)<(m:Int)+(I:Int)-1:=by have:=HM.out;omega
     have hq2:(0:Int)≤K:=by omega
     have hq3:(K:Int)<N:=by omega
     have hq4:(K:Int)+1<N:=by omega
     have hq5:(0:Int)≤(K:Int)+1:=by omega
     have hq6:IntKind.i64.wrap ((K:Int)+1)=(K:Int)+1:=by rw[IntKind.wrap_i64];omega
     have hq7:((K:Int)+1).toNat=K+1:=by omega
     have hne1:K*2≠(K+1)*2:=by omega
     have hne2:(K+1)*2≠K*2:=by omega
     have hne3:K*2+1≠(K+1)*2:=by omega
     have hne4:(K+1)*2≠K*2+1:=by omega
     have hne5:K*2≠(K+1)*2+1:=by omega
     have hne6:(K+1)*2+1≠K*2:=by omega
     have HKK:=AJ hK;clear hK;go_wp2_with fail;go_region_law(fail)
     all_goals
      go_wp2_with fail;go_roundg(I-(k+1));case measure=>omega
      case rel=>exact⟨k+1,by first|(rw[show a+(k+1)=K+1 by have:=HKK.out;omega];first|rfl|go_num),by omega,rfl,AJ ⟨bj.below HW.out.1 (ae _).drew,HW.out.2.trans (Kept.aA (ae _).drew)⟩⟩
    ·have e:k=I:=by omega
     subst e;have hq1: ¬((a:Int)+(k:Int)<(m:Int)+(k:Int)-1):=by have:=HM.out;omega
     go_wp2_with fail;refine bodyPost_ret (v:=.tuple #[]) (by simp[results,Tryz.results254,go_sem]) rfl ?_;exact⟨rfl,Y.take k++x::Y.drop k,HZ.out,by have h:=HK2.out.1;unfold eB at h;rwa[List.append_assoc] at h,HK2.out.2⟩
theorem pe(l P X S:List ag)(y:ag)(a m b:Nat)(he:l=P++X++[y]++S)(hP:P.length=a)(hm:b=m+1)(hX:X.length=m-a)(ham:a<m)(hm1:m≠a+1)(sX:cB ao X)(hl:l.length≤1048576)(base g c:Nat)(w:World)(h:bj base w g c l)(hcf: ∀(a:Array Value)(w:World),(callFunc 157 a).run Tryz.prog w=.ok (.enter 157 a) w):Calls Tryz.prog 254 #[.slice (some ⟨g,0,none⟩) l.length c,.int .i64 (a:Int),.int .i64 (m:Int),.int .i64 (b:Int),.func (.func 157) #[] #[]] w (fun e w'=>e=.returned (.tuple #[])∧ ∃Z,(cB ao Z∧Z.Perm (X++[y]))∧bj base w' g c (P++Z++S)∧Kept [g] w w'):=by
 have hln:l.length=a+(m-a)+1+S.length:=by rw[he];simp;omega
 have hxa:l.getD m default=y:=by rw[he,show P++X++[y]++S=(P++X)++y::S by simp];exact gH (by rw[List.length_append];omega)
 obtain⟨N,hN⟩: ∃N,N=l.length:=⟨_,rfl⟩;rw[←hN] at hln hl ⊢;have hbN:m<N:=by omega
 have HE:=AJ (AH he (AH hP (AH hX (AH sX (AH hN hxa)))));have HR:=AJ h;have hw0:IntKind.i64.wrap ((m:Int)-(a:Int))=(m:Int)-(a:Int):=by rw[IntKind.wrap_i64];omega
 have hw1:IntKind.i64.wrap ((b:Int)-(m:Int))=1:=by rw[IntKind.wrap_i64];omega
 have hw2:((m:Int)-(a:Int)==1)=false:=by simp;omega
 have HM:=AJ hm;clear he hP hX sX hN hxa h hln hm;go_enter Tryz.func254,Tryz.ntmps254;go_wp2_with fail;go_loopg[14,15] (m-a) (fun gk s14 s15 wr=> ∃i j:Nat,s14=.int .i64 (i:Int)∧s15=.int .i64 (j:Int)∧a≤i∧i≤j∧j≤m∧gk=j-i∧Hid ((i=a∨ao y (l.getD (i-1) default)=false)∧(j=m∨ao y (l.getD j default)=true)∧bj base wr g c l∧Kept [g] w wr));case atStart=>exact⟨a,m,rfl,rfl,by omega,by omega,by omega,rfl,AJ ⟨.inl rfl,.inl rfl,HR.out,Kept.refl _ _⟩⟩
 case round=>
  obtain⟨i,j,rfl,rfl,h1,h2,h3,rfl,HQ⟩:=hrel;by_cases hlt:i<j
  ·have hlt':(i:Int)<j:=by omega
   obtain⟨H,hH⟩: ∃H,H=(i+j)/2:=⟨_,rfl⟩;have hH1:i≤H:=by omega
   have hH2:H<j:=by omega
   have hHi:((i:Int)+(j:Int))/2=(H:Int):=by omega
   clear hH;go_wp2_with fail;clear hHi;have hk1:(0:Int)≤H:=by omega
   have hk2:(H:Int)<N:=by omega
   have hk3:(0:Int)≤m:=by omega
   have hk4:(m:Int)<N:=by omega
   obtain⟨X1,A1,c1,hX1,hS1,x0,x1⟩:=HQ.out.2.2.1.zk (i:=m) (by rw[←HE.out.2.2.2.2.1];omega);obtain⟨X2,A2,c2,hX2,hS2,y0,y1⟩:=HQ.out.2.2.1.zk (i:=H) (by rw[←HE.out.2.2.2.2.1];omega);obtain⟨r,hr⟩: ∃r,r=fq X1 X2:=⟨_,rfl⟩;have hlt2:=gX X1 X2;rw[←hr] at hlt2;have hgl:=HQ.out.2.2.1.lt;have HX:=AJ (AH hr (AH hlt2 (AH hX1 hX2)));clear hr hlt2 hX1 hX2;have HS:=AJ (AH hS1 (AH hS2 True.intro));clear hS1 hS2;go_region_held3(fun u=>u.cell? ⟨g,m*2,none⟩=some (.int .i64 X1.kind)∧u.cell? ⟨g,m*2+1,none⟩=some (.slice A1 X1.p.length c1)∧u.cell? ⟨g,H*2,none⟩=some (.int .i64 X2.kind)∧u.cell? ⟨g,H*2+1,none⟩=some (.slice A2 X2.p.length c2)) (go_keep) (first|(go_at_call 157;(refine(cN X1 X2 A1 A2 c1 c2 _ (by first|exact HS.out.1|exact HS.out.1.drew) (by first|exact HS.out.2.1|exact HS.out.2.1.drew)).mono ?_;rintro e w3 ⟨rfl,hb3⟩;rw[←HX.out.1];have HB3:=AJ (AH (show Below wr.heap.size wr w3 from(by first|exact hb3|exact ak (ae wr).drew hb3)) True.intro);have zx0:=(HB3.out.1.cell (p:=⟨g,_,none⟩) hgl).trans x0;have zx1:=(HB3.out.1.cell (p:=⟨g,_,none⟩) hgl).trans x1;have zy0:=(HB3.out.1.cell (p:=⟨g,_,none⟩) hgl).trans y0;have zy1:=(HB3.out.1.cell (p:=⟨g,_,none⟩) hgl).trans y1;clear hb3)))
   all_goals
    obtain⟨d,hd⟩: ∃d,d=decide (r<0):=⟨_,rfl⟩;rw[←hd];have HD:=AJ hd;clear hd;cases d;rotate_left
    ·have hnb:=HD.out.symm;go_wp2_with fail;go_roundg(H-i);case measure=>omega
     case rel=>refine⟨i,H,rfl,by first|rfl|go_num,by omega,by omega,by omega,rfl,AJ ⟨HQ.out.1,.inr ?_,HQ.out.2.2.1.below HB3.out.1,HQ.out.2.2.2.trans (Kept.aA HB3.out.1)⟩⟩;rw[←HX.out.2.2.2,←HE.out.2.2.2.2.2,←HX.out.2.2.1,←HX.out.2.1];exact hnb
    ·have hnb:=HD.out.symm;go_wp2_with fail;go_roundg(j-(H+1));case measure=>omega
     case rel=>refine⟨H+1,j,by first|rfl|go_num,rfl,by omega,by omega,by omega,rfl,AJ ⟨.inr ?_,HQ.out.2.1,HQ.out.2.2.1.below HB3.out.1,HQ.out.2.2.2.trans (Kept.aA HB3.out.1)⟩⟩;rw[show H+1-1=H by omega,←HX.out.2.2.2,←HE.out.2.2.2.2.2,←HX.out.2.2.1,←HX.out.2.1];exact hnb
  ·have e:i=j:=by omega
   subst e;have hZ:=Ao (P:=P) (X:=X) (S:=S) (y:=y) (a:=a) (m:=m) (i:=i) HE.out.2.1 HE.out.2.2.1 h1 h3 HE.out.2.2.2.1 (by rw[←HE.out.1];exact HQ.out.1) (by rw[←HE.out.1];exact HQ.out.2.1);obtain⟨I,hI⟩: ∃I,I=i-a:=⟨_,rfl⟩;rw[←hI] at hZ;have hIY:I≤m-a:=by omega
   have him:i=a+I:=by omega
   have HZ:=AJ hZ;clear hZ hI;have hrow0:bj base wr g c (eB P X S y (m-a)):=by(have e:eB P X S y (m-a)=l:=by unfold eB;rw[HE.out.1,←HE.out.2.2.1,List.take_length,List.drop_length];simp);rw[e];exact HQ.out.2.2.1
   have HK:=AJ (AH hrow0 HQ.out.2.2.2);clear hrow0 HQ;have hij: ¬((i:Int)<(i:Int)):=by omega
   subst him;clear h2 hlt h1;go_wp2_with fail;go_loopg[17] (m-a-I) (fun gk s17 wx=> ∃k:Nat,s17=.int .i64 ((a+k:Nat):Int)∧I≤k∧k≤m-a∧gk=k-I∧Hid (bj base wx g c (eB P X S y k)∧Kept [g] w wx));case atStart=>exact⟨m-a,by congr 1;omega,by omega,by omega,by omega,AJ HK.out⟩
   case round=>
    obtain⟨k,rfl,hk,hkm,rfl,HK2⟩:=hrel;by_cases hlk:I<k
    ·obtain⟨t,rfl⟩: ∃t,k=t+1:=⟨k-1,by omega⟩;obtain⟨K,hK⟩: ∃K,K=a+t:=⟨_,rfl⟩;have hkY:t<X.length:=by rw[HE.out.2.2.1];omega
     have hlen:(eB P X S y (t+1)).length=N:=by rw[HE.out.2.2.2.2.1,HE.out.1];unfold eB;simp;omega
     have hsw:kg (eB P X S y (t+1)) (K+1) K=eB P X S y t:=by rw[←lM P X S y hkY,ju P X S y hkY];exact xZ (by rw[List.length_append,List.length_take,HE.out.2.1];omega) rfl
     obtain⟨X1,X2,A1,A2,c1,c2,⟨x0,x1⟩,⟨y0,y1⟩,hrow2,hk2,⟨fx0,fx1⟩,⟨fy0,fy1⟩⟩:=HK2.out.1.swp (i:=K+1) (j:=K) (by omega) (by omega);rw[hsw] at hrow2;have HW:=AJ (AH hrow2 (HK2.out.2.trans hk2));clear hrow2 hk2 hsw hlen hkY;have hq1:(a:Int)+(I:Int)<(K:Int)+1:=by omega
     rw[show a+(t+1)=K+1 by omega];have hq2:(0:Int)≤K:=by omega
     have hq3:(K:Int)<N:=by omega
     have hq4:(K:Int)+1<N:=by omega
     have hq5:(0:Int)≤(K:Int)+1:=by omega
     have hq6:IntKind.i64.wrap ((K:Int)+1-1)=(K:Int):=by rw[IntKind.wrap_i64];omega
     have hq8:IntKind.i64.wrap (K:Int)=(K:Int):=by rw[IntKind.wrap_i64];omega
     have hq7:((K:Int)+1).toNat=K+1:=by omega
     have hne1:K*2≠(K+1)*2:=by omega
     have hne2:(K+1)*2≠K*2:=by omega
     have hne3:K*2+1≠(K+1)*2:=by omega
     have hne4:(K+1)*2≠K*2+1:=by omega
     have hne5:K*2≠(K+1)*2+1:=by omega
     have hne6:(K+1)*2+1≠K*2:=by omega
     have HKK:=AJ hK;clear hK;go_wp2_with fail;go_region_law(fail)
     all_goals
      go_wp2_with fail;go_roundg(t-I);case measure=>omega
      case rel=>exact⟨t,by first|(rw[←HKK.out];done)|(rw[←HKK.out];first|rfl|go_num),by omega,by omega,rfl,AJ ⟨bj.below HW.out.1 (ae _).drew,HW.out.2.trans (Kept.aA (ae _).drew)⟩⟩
    ·have e:k=I:=by omega
     subst e;have hq1: ¬((a:Int)+(k:Int)<(a:Int)+(k:Int)):=by omega
     go_wp2_with fail;refine bodyPost_ret (v:=.tuple #[]) (by simp[results,Tryz.results254,go_sem]) rfl ?_;exact⟨rfl,X.take k++y::X.drop k,HZ.out,by have h:=HK2.out.1;unfold eB at h;rwa[List.append_assoc] at h,HK2.out.2⟩
def SymM(n:Nat):Prop:= ∀(l P X Y S:List ag)(a m b:Nat),l=P++X++Y++S→P.length=a→X.length=m-a→Y.length=b-m→a<m→m<b→b-a≤n→cB ao X→cB ao Y→l.length≤1048576→ ∀(base g c:Nat)(w:World),bj base w g c l→Calls Tryz.prog 254 #[.slice (some ⟨g,0,none⟩) l.length c,.int .i64 (a:Int),.int .i64 (m:Int),.int .i64 (b:Int),.func (.func 157) #[] #[]] w (fun e w'=>e=.returned (.tuple #[])∧ ∃Z,(cB ao Z∧Z.Perm (X++Y))∧bj base w' g c (P++Z++S)∧Kept [g] w w')
theorem po(n:Nat)(IH:SymM n)(l P X Y S:List ag)(a m b:Nat)(he:l=P++X++Y++S)(hP:P.length=a)(hX:X.length=m-a)(hY:Y.length=b-m)(ham:a<m)(hmb:m<b)(hn:b-a≤n+1)(hm1:m≠a+1)(hb1:b≠m+1)(sX:cB ao X)(sY:cB ao Y)(hl:l.length≤1048576)(base g c:Nat)(w:World)(h:bj base w g c l)(hcf: ∀(a:Array Value)(w:World),(callFunc 157 a).run Tryz.prog w=.ok (.enter 157 a) w):Calls Tryz.prog 254 #[.slice (some ⟨g,0,none⟩) l.length c,.int .i64 (a:Int),.int .i64 (m:Int),.int .i64 (b:Int),.func (.func 157) #[] #[]] w (fun e w'=>e=.returned (.tuple #[])∧ ∃Z,(cB ao Z∧Z.Perm (X++Y))∧bj base w' g c (P++Z++S)∧Kept [g] w w'):=by
 have hln:l.length=a+(m-a)+(b-m)+S.length:=by rw[he];simp;omega
 obtain⟨N,hN⟩: ∃N,N=l.length:=⟨_,rfl⟩;rw[←hN] at hln hl ⊢;have hbN:b≤N:=by omega
 obtain⟨k,hk⟩: ∃k,k=(a+b)/2:=⟨_,rfl⟩;obtain⟨s0,r0,ms1,ms2,ms3,ms4,ms5,ms6,ms7,ms8,ms9⟩:=Aw (k:=k) ham hmb (by omega) (by omega) hm1 hb1;have hka:a<k:=by omega
 have hkb:k<b:=by omega
 have hki:((a:Int)+(b:Int))/2=(k:Int):=by omega
 have HE:=AJ (AH he (AH hP (AH hX (AH sX (AH hN (AH hY sY))))));have HR:=AJ h;have HI:=AJ IH;have HS9:=AJ ms9;have HS78:=AJ (AH ms7 ms8);have hw0:IntKind.i64.wrap ((m:Int)-(a:Int))=(m:Int)-(a:Int):=by rw[IntKind.wrap_i64];omega
 have hw1:IntKind.i64.wrap ((b:Int)-(m:Int))=(b:Int)-(m:Int):=by rw[IntKind.wrap_i64];omega
 have hw2:((m:Int)-(a:Int)==1)=false:=by simp;omega
 have hw3:((b:Int)-(m:Int)==1)=false:=by simp;omega
 have hw4:IntKind.i64.wrap ((k:Int)+(m:Int))=(k:Int)+(m:Int):=by rw[IntKind.wrap_i64];omega
 have hw5:IntKind.i64.wrap ((k:Int)+(m:Int)-1)=(k:Int)+(m:Int)-1:=by rw[IntKind.wrap_i64];omega
 have hw6:IntKind.i64.wrap ((k:Int)+(m:Int)-(b:Int))=(k:Int)+(m:Int)-(b:Int):=by rw[IntKind.wrap_i64];omega
 clear he hP hX hY sX sY hN h hln IH hk ms9 ms7 ms8;go_enter Tryz.func254,Tryz.ntmps254;go_upto_if 140 with fail;go_cut[20,21] (fun s20 s21 wx=>s20=.int .i64 (s0:Int)∧s21=.int .i64 (r0:Int)∧Hid (bj base wx g c l∧Kept [g] w wx))
 case first=>
  rcases HS9.out with⟨q1,q2,q3⟩|⟨q1,q2,q3⟩
  ·have q4:(k:Int)<(m:Int):=by omega
   go_wp2_with fail;go_meet;exact⟨by rw[q2],by rw[q3],AJ ⟨HR.out,Kept.refl _ _⟩⟩
  ·have q4: ¬(k:Int)<(m:Int):=by omega
   go_wp2_with fail;go_meet;exact⟨by rw[q2],by rw[q3],AJ ⟨HR.out,Kept.refl _ _⟩⟩
 case rest=>
  obtain⟨rfl,rfl,HQ0⟩:=hcut;go_wp2_with fail;go_loopg[20,21] (r0-s0) (fun gk s20 s21 wr=> ∃s r:Nat,s20=.int .i64 (s:Int)∧s21=.int .i64 (r:Int)∧s0≤s∧s≤r∧r≤r0∧gk=r-s∧Hid ((s=a∨m+k-s=b∨ao (l.getD (m+k-s) default) (l.getD (s-1) default)=false)∧(r=m∨m+k-r=m∨ao (l.getD (m+k-r-1) default) (l.getD r default)=true)∧bj base wr g c l∧Kept [g] w wr));case atStart=>exact⟨s0,r0,rfl,rfl,by omega,by omega,by omega,rfl,AJ ⟨by rcases HS78.out.1 with h|h<;>simp[h],by rcases HS78.out.2 with h|h<;>simp[h],HQ0.out.1,HQ0.out.2⟩⟩
  case round=>
   obtain⟨i,j,rfl,rfl,h1,h2,h3,rfl,HQ⟩:=hrel;by_cases hlt:i<j
   ·have hlt':(i:Int)<j:=by omega
    obtain⟨H,hH⟩: ∃H,H=(i+j)/2:=⟨_,rfl⟩;have hH1:i≤H:=by omega
    have hH2:H<j:=by omega
    have hHi:((i:Int)+(j:Int))/2=(H:Int):=by omega
    obtain⟨J,hJ⟩: ∃J,J=m+k-H-1:=⟨_,rfl⟩;have hJi:(k:Int)+(m:Int)-1-(H:Int)=(J:Int):=by omega
    have hJw:IntKind.i64.wrap ((k:Int)+(m:Int)-1-(H:Int))=(J:Int):=by rw[IntKind.wrap_i64];omega
    have hJw2:IntKind.i64.wrap (J:Int)=(J:Int):=by rw[IntKind.wrap_i64];omega
    have hJN:J<N:=by omega
    have HHJ:=AJ (AH hH hJ);clear hH hJ;go_wp2_with fail;clear hHi;have hk1:(0:Int)≤H:=by omega
    have hk2:(H:Int)<N:=by omega
    have hk3:(0:Int)≤J:=by omega
    have hk4:(J:Int)<N:=by omega
    obtain⟨X1,A1,c1,hX1,hS1,x0,x1⟩:=HQ.out.2.2.1.zk (i:=J) (by rw[←HE.out.2.2.2.2.1];omega);obtain⟨X2,A2,c2,hX2,hS2,y0,y1⟩:=HQ.out.2.2.1.zk (i:=H) (by rw[←HE.out.2.2.2.2.1];omega);obtain⟨r,hr⟩: ∃r,r=fq X1 X2:=⟨_,rfl⟩;have hlt2:=gX X1 X2;rw[←hr] at hlt2;have hgl:=HQ.out.2.2.1.lt;have HX:=AJ (AH hr (AH hlt2 (AH hX1 hX2)));clear hr hlt2 hX1 hX2;have HS:=AJ (AH hS1 (AH hS2 True.intro));clear hS1 hS2;go_region_held3(fun u=>u.cell? ⟨g,J*2,none⟩=some (.int .i64 X1.kind)∧u.cell? ⟨g,J*2+1,none⟩=some (.slice A1 X1.p.length c1)∧u.cell? ⟨g,H*2,none⟩=some (.int .i64 X2.kind)∧u.cell? ⟨g,H*2+1,none⟩=some (.slice A2 X2.p.length c2)) (go_keep) (first|(go_at_call 157;(refine(cN X1 X2 A1 A2 c1 c2 _ (by first|exact HS.out.1|exact HS.out.1.drew) (by first|exact HS.out.2.1|exact HS.out.2.1.drew)).mono ?_;rintro e w3 ⟨rfl,hb3⟩;rw[←HX.out.1];have HB3:=AJ (AH (show Below wr.heap.size wr w3 from(by first|exact hb3|exact ak (ae wr).drew hb3)) True.intro);have zx0:=(HB3.out.1.cell (p:=⟨g,_,none⟩) hgl).trans x0;have zx1:=(HB3.out.1.cell (p:=⟨g,_,none⟩) hgl).trans x1;have zy0:=(HB3.out.1.cell (p:=⟨g,_,none⟩) hgl).trans y0;have zy1:=(HB3.out.1.cell (p:=⟨g,_,none⟩) hgl).trans y1;clear hb3)))
    all_goals
     obtain⟨d,hd⟩: ∃d,d=decide (r<0):=⟨_,rfl⟩;rw[←hd];have HD:=AJ hd;clear hd;cases d;rotate_left
     ·have hnb:=HD.out.symm;go_wp2_with fail;go_roundg(H-i);case measure=>omega
      case rel=>refine⟨i,H,rfl,by first|rfl|go_num,by omega,by omega,by omega,rfl,AJ ⟨HQ.out.1,.inr (.inr ?_),HQ.out.2.2.1.below HB3.out.1,HQ.out.2.2.2.trans (Kept.aA HB3.out.1)⟩⟩;rw[←HHJ.out.2,←HX.out.2.2.1,←HX.out.2.2.2,←HX.out.2.1];exact hnb
     ·have hnb:=HD.out.symm;go_wp2_with fail;go_roundg(j-(H+1));case measure=>omega
      case rel=>refine⟨H+1,j,by first|rfl|go_num,rfl,by omega,by omega,by omega,rfl,AJ ⟨.inr (.inr ?_),HQ.out.2.1,HQ.out.2.2.1.below HB3.out.1,HQ.out.2.2.2.trans (Kept.aA HB3.out.1)⟩⟩;rw[show H+1-1=H by omega,show m+k-(H+1)=J by rw[HHJ.out.2];omega,←HX.out.2.2.1,←HX.out.2.2.2,←HX.out.2.1];exact hnb
   ·have e:i=j:=by omega
    subst e;obtain⟨e,hee⟩: ∃e,e=m+k-i:=⟨_,rfl⟩;have hei:(k:Int)+(m:Int)-(i:Int)=(e:Int):=by omega
    have hew:IntKind.i64.wrap ((k:Int)+(m:Int)-(i:Int))=(e:Int):=by rw[IntKind.wrap_i64];omega
    have hew2:IntKind.i64.wrap (e:Int)=(e:Int):=by rw[IntKind.wrap_i64];omega
    have has:a≤i:=by omega
    have hsm:i≤m:=by omega
    have hme:m≤e:=by omega
    have heb:e≤b:=by omega
    have hek:e-m=k-i:=by omega
    have hek2:e-k=m-i:=by omega
    have hik:i≤k:=by omega
    have hke:k≤e:=by omega
    rw[←hee] at HQ;clear h1 h2 h3 hlt hee ms1 ms2 ms3 ms4 ms5 ms6 HS9 HS78 HQ0;obtain⟨Z1,hZ1⟩: ∃Z1,Z1=X.take (i-a)++Y.take (e-m):=⟨_,rfl⟩;obtain⟨Z2,hZ2⟩: ∃Z2,Z2=X.drop (i-a)++Y.drop (e-m):=⟨_,rfl⟩;have hl1:Z1.length=(i-a)+(k-i):=by rw[hZ1,List.length_append,List.length_take,List.length_take,HE.out.2.2.1,HE.out.2.2.2.2.2.1];omega
    have hl2:Z2.length=(e-k)+(b-e):=by rw[hZ2,List.length_append,List.length_drop,List.length_drop,HE.out.2.2.1,HE.out.2.2.2.2.2.1];omega
    have hlZ:(P++Z1++(Z2++S)).length=N:=by have h:=HE.out.2.2.2.2.1;rw[HE.out.1] at h;simp only[List.length_append] at h ⊢;rw[HE.out.2.2.1,HE.out.2.2.2.2.2.1] at h;omega
    have HZ:=AJ (AH hZ1 (AH hZ2 (AH hl1 (AH hl2 hlZ))));clear hZ1 hZ2 hl1 hl2 hlZ;have hii: ¬((i:Int)<(i:Int)):=by omega
    go_upto_region 39 with fail;go_cut[185] from 178 to 219 (fun s185 wx=>s185=.bool (decide (i<m∧m<e))∧Hid (bj base wx g c l∧Kept [g] w wx))
    case first=>
     by_cases hc1:i<m
     ·have q1:(i:Int)<(m:Int):=by omega
      by_cases hc2:m<e
      ·have q2:(m:Int)<(e:Int):=by omega
       have hd:decide (i<m∧m<e)=true:=by simp;omega
       go_wp2_with fail;go_meet;exact⟨by rw[hd],AJ ⟨HQ.out.2.2.1,HQ.out.2.2.2⟩⟩
      ·have q2: ¬((m:Int)<(e:Int)):=by omega
       have hd:decide (i<m∧m<e)=false:=by simp;omega
       go_wp2_with fail;go_meet;exact⟨by rw[hd],AJ ⟨HQ.out.2.2.1,HQ.out.2.2.2⟩⟩
     ·have q1: ¬((i:Int)<(m:Int)):=by omega
      have hd:decide (i<m∧m<e)=false:=by simp;omega
      go_wp2_with fail;go_meet;exact⟨by rw[hd],AJ ⟨HQ.out.2.2.1,HQ.out.2.2.2⟩⟩
    case rest=>
     obtain⟨hs185,HQr⟩:=hcut;obtain⟨B1,hB1⟩: ∃B1,B1=decide (i<m∧m<e):=⟨_,rfl⟩;rw[←hB1] at hs185;subst hs185;have HB1:=AJ hB1;clear hB1;go_upto_if 185 with fail;go_cut[24] from 178 to 219 (fun s24 wx=>s24=.int .i64 (e:Int)∧Hid (bj base wx g c (P++Z1++(Z2++S))∧Kept [g] w wx))
     case first=>
      cases B1
      ·have hc: ¬(i<m∧m<e):=of_decide_eq_false HB1.out.symm;have hrt:=xa (S:=S) HE.out.2.1 HE.out.2.2.1 HE.out.2.2.2.2.2.1 (by omega) has hsm hme heb hc;rw[←HE.out.1] at hrt;have hrow:bj base wc g c (P++Z1++(Z2++S)):=by rw[HZ.out.1,HZ.out.2.1,←List.append_assoc P,hrt];exact HQr.out.1
       have HW5:=AJ (AH hrow HQr.out.2);clear hrow hrt hc;go_wp2_with fail;go_meet;exact⟨rfl,AJ HW5.out⟩
      ·have hc:i<m∧m<e:=of_decide_eq_true HB1.out.symm;have hrt:=yM (S:=S) HE.out.2.1 HE.out.2.2.1 HE.out.2.2.2.2.2.1 (by omega) has hsm hme heb;rw[←HE.out.1] at hrt;have hcl:=fun w0 h0=>tv _ l i m e hc.1 hc.2 hrt (by rw[←HE.out.2.2.2.2.1];exact hl) (.func (.func 157) #[] #[]) base g c w0 h0;rw[←HE.out.2.2.2.2.1] at hcl;have HC:=AJ hcl;clear hcl hrt hc;go_wp2_with fail;refine(HC.out _ HQr.out.1).mono ?_;rintro e5 w5 ⟨rfl,hr5,hk5⟩;have HW5:=AJ (AH hr5 (HQr.out.2.trans hk5));clear hr5 hk5;go_wp2_with fail;go_meet;refine⟨rfl,AJ ⟨?_,HW5.out.2⟩⟩;rw[HZ.out.1,HZ.out.2.1,←List.append_assoc P];exact HW5.out.1
     case rest=>
      obtain⟨rfl,HQ1⟩:=hcut;have C1:=AJ (AH HQ.out.1 HQ.out.2.1);clear HQ;go_upto_region 41 with fail;go_cut[199] from 178 to 219 (fun s199 wx=>s199=.bool (decide (a<i∧i<k))∧Hid (bj base wx g c (P++Z1++(Z2++S))∧Kept [g] w wx))
      case first=>
       by_cases hc1:a<i
       ·have q1:(a:Int)<(i:Int):=by omega
        by_cases hc2:i<k
        ·have q2:(i:Int)<(k:Int):=by omega
         have hd:decide (a<i∧i<k)=true:=by simp;omega
         go_wp2_with fail;go_meet;exact⟨by rw[hd],AJ HQ1.out⟩
        ·have q2: ¬((i:Int)<(k:Int)):=by omega
         have hd:decide (a<i∧i<k)=false:=by simp;omega
         go_wp2_with fail;go_meet;exact⟨by rw[hd],AJ HQ1.out⟩
       ·have q1: ¬((a:Int)<(i:Int)):=by omega
        have hd:decide (a<i∧i<k)=false:=by simp;omega
        go_wp2_with fail;go_meet;exact⟨by rw[hd],AJ HQ1.out⟩
      case rest=>
       obtain⟨hs199,HQs⟩:=hcut;obtain⟨B2,hB2⟩: ∃B2,B2=decide (a<i∧i<k):=⟨_,rfl⟩;rw[←hB2] at hs199;subst hs199;have HB2:=AJ hB2;clear hB2;go_upto_if 199 with fail;go_cut[24] from 178 to 219 (fun s24 wx=>s24=.int .i64 (e:Int)∧ ∃Z,Hid ((cB ao Z∧Z.Perm Z1)∧bj base wx g c (P++Z++(Z2++S))∧Kept [g] w wx))
       case first=>
        cases B2
        ·have hc: ¬(a<i∧i<k):=of_decide_eq_false HB2.out.symm;have hs1:cB ao Z1:=by rw[HZ.out.1];refine r7 (kA HE.out.2.2.2.1) (kA HE.out.2.2.2.2.2.2) ?_;rw[List.length_take,List.length_take,HE.out.2.2.1,HE.out.2.2.2.2.2.1];omega
         have HW5:=AJ (AH (AH hs1 (List.Perm.refl Z1)) HQs.out);clear hs1 hc;go_wp2_with fail;go_meet;exact⟨rfl,Z1,AJ HW5.out⟩
        ·have hc:a<i∧i<k:=of_decide_eq_true HB2.out.symm;have hcl:=fun w0 h0=>HI.out (P++Z1++(Z2++S)) P (X.take (i-a)) (Y.take (e-m)) (Z2++S) a i k (by rw[HZ.out.1];simp) HE.out.2.1 (by rw[List.length_take,HE.out.2.2.1];omega) (by rw[List.length_take,HE.out.2.2.2.2.2.1];omega) hc.1 hc.2 (by omega) (kA HE.out.2.2.2.1) (kA HE.out.2.2.2.2.2.2) (by rw[HZ.out.2.2.2.2];exact hl) base g c w0 h0;rw[HZ.out.2.2.2.2] at hcl;have HC:=AJ hcl;clear hcl hc;go_wp2_with fail;refine(HC.out _ HQs.out.1).mono ?_;rintro e5 w5 ⟨rfl,Z,hz5,hr5,hk5⟩;rw[←HZ.out.1] at hz5;have HW5:=AJ (AH hz5 (AH hr5 (HQs.out.2.trans hk5)));clear hr5 hk5 hz5;go_wp2_with fail;go_meet;exact⟨rfl,Z,AJ HW5.out⟩
       case rest=>
        obtain⟨rfl,ZA,HQ2⟩:=hcut;have hlA:ZA.length=Z1.length:=HQ2.out.1.2.length_eq;have hlN:(P++ZA++(Z2++S)).length=N:=by have h:=HZ.out.2.2.2.2;simp only[List.length_append] at h ⊢;omega
        have HLA:=AJ (AH hlA hlN);clear hlA hlN;by_cases hc:k<e∧e<b
        ·have q1:(k:Int)<(e:Int):=by omega
         have q2:(e:Int)<(b:Int):=by omega
         have hcl:=fun w0 h0=>HI.out (P++ZA++(Z2++S)) (P++ZA) (X.drop (i-a)) (Y.drop (e-m)) S k e b (by rw[HZ.out.2.1];simp) (by rw[List.length_append,HLA.out.1,HZ.out.2.2.1,HE.out.2.1];omega) (by rw[List.length_drop,HE.out.2.2.1];omega) (by rw[List.length_drop,HE.out.2.2.2.2.2.1];omega) hc.1 hc.2 (by omega) (kZ HE.out.2.2.2.1) (kZ HE.out.2.2.2.2.2.2) (by rw[HLA.out.2];exact hl) base g c w0 h0;rw[HLA.out.2] at hcl;have HC:=AJ hcl;clear hcl;go_wp2_with fail;refine(HC.out _ HQ2.out.2.1).mono ?_;rintro e5 w5 ⟨rfl,Z,hz5,hr5,hk5⟩;have hM:=zK (Z1:=ZA) (Z2:=Z) (S:=S) HE.out.2.1 HE.out.2.2.1 HE.out.2.2.2.2.2.1 has hsm hme heb HE.out.2.2.2.1 HE.out.2.2.2.2.2.2 (by rw[←HE.out.1];exact C1.out.1) (by rw[←HE.out.1];exact C1.out.2) (by rw[←HZ.out.1];exact HQ2.out.1.2) hz5.2 HQ2.out.1.1 hz5.1;have HW5:=AJ (AH hM (AH hr5 (HQ2.out.2.2.trans hk5)));clear hr5 hk5 hz5 hM;go_wp2_with fail;refine bodyPost_end (v:=.tuple #[]) (by simp[results,Tryz.results254,go_sem]) rfl ?_;exact⟨rfl,ZA++Z,HW5.out.1,by have h:=HW5.out.2.1;simpa using h,HW5.out.2.2⟩
        ·have hs2:cB ao Z2:=by rw[HZ.out.2.1];refine r7 (kZ HE.out.2.2.2.1) (kZ HE.out.2.2.2.2.2.2) ?_;rw[List.length_drop,List.length_drop,HE.out.2.2.1,HE.out.2.2.2.2.2.1];omega
         have hM:=zK (Z1:=ZA) (Z2:=Z2) (S:=S) HE.out.2.1 HE.out.2.2.1 HE.out.2.2.2.2.2.1 has hsm hme heb HE.out.2.2.2.1 HE.out.2.2.2.2.2.2 (by rw[←HE.out.1];exact C1.out.1) (by rw[←HE.out.1];exact C1.out.2) (by rw[←HZ.out.1];exact HQ2.out.1.2) (by rw[←HZ.out.2.1]) HQ2.out.1.1 hs2;have HW5:=AJ (AH hM HQ2.out.2);clear hM hs2;by_cases q1:(k:Int)<(e:Int)
         ·have q2: ¬((e:Int)<(b:Int)):=by omega
          go_wp2_with fail;refine bodyPost_end (v:=.tuple #[]) (by simp[results,Tryz.results254,go_sem]) rfl ?_;exact⟨rfl,ZA++Z2,HW5.out.1,by have h:=HW5.out.2.1;simpa using h,HW5.out.2.2⟩
         ·go_wp2_with fail;refine bodyPost_end (v:=.tuple #[]) (by simp[results,Tryz.results254,go_sem]) rfl ?_;exact⟨rfl,ZA++Z2,HW5.out.1,by have h:=HW5.out.2.1;simpa using h,HW5.out.2.2⟩
theorem rE(hcf: ∀(a:Array Value)(w:World),(callFunc 157 a).run Tryz.prog w=.ok (.enter 157 a) w): ∀n,SymM n|0=>fun l P X Y S a m b he hP hX hY ham hmb hn _ _ _ _ _ _ _ _=>absurd hn (by omega)|n+1=>fun l P X Y S a m b he hP hX hY ham hmb hn sX sY hl base g c w h=>by by_cases hm1:m=a+1;(·obtain⟨x,rfl⟩: ∃x,X=[x]:=List.length_eq_one_iff.1 (by omega);exact pt l P Y S x a m b he hP hm1 hY hmb sY hl base g c w h hcf);·by_cases hb1:b=m+1;(·obtain⟨y,rfl⟩: ∃y,Y=[y]:=List.length_eq_one_iff.1 (by omega);exact pe l P X S y a m b he hP hb1 hX ham hm1 sX hl base g c w h hcf);·exact po n (rE hcf n) l P X Y S a m b he hP hX hY ham hmb hn hm1 hb1 sX sY hl base g c w h hcf
inductive Full (n : Nat) : List ag → Prop
  | nil : Full n []
  | snoc {D X : List ag} : Full n D → X.length = n → cB ao X → Full n (D ++ X)
inductive dA (n : Nat) : List ag → Prop
  | last {X : List ag} : X.length ≤ n → cB ao X → dA n X
  | cons {X R : List ag} : X.length = n → cB ao X → dA n R → dA n (X ++ R)
theorem Full.chunks{n:Nat}{D:List ag}(h:Full n D): ∀{R:List ag},dA n R→dA n (D++R):=by
 induction h with|nil=>intro R h;exact h|snoc _ h2 h3 ih=>intro R h;rw[List.append_assoc];exact ih (.cons h2 h3 h)
theorem dA.two{n:Nat}{R:List ag}(h:dA n R)(h2:2*n≤R.length)(hn:0<n): ∃X Y R',R=X++Y++R'∧X.length=n∧Y.length=n∧cB ao X∧cB ao Y∧dA n R':=by
 cases h with|last h3 h4=>omega| @cons X R h3 h4 h5=>rw[List.length_append] at h2;cases h5 with|last h6 h7=>exact⟨X,R,[],by simp,h3,by omega,h4,h7,.last (by simp) List.Pairwise.nil⟩| @cons Y R' h6 h7 h8=>exact⟨X,Y,R',by simp,h3,h6,h4,h7,h8⟩
theorem dA.end_{n:Nat}{R:List ag}(h:dA n R)(h2:R.length<2*n)(hn:0<n):(R.length≤n∧cB ao R)∨ ∃X Y,R=X++Y∧X.length=n∧cB ao X∧cB ao Y:=by
 cases h with|last h3 h4=>exact .inl ⟨h3,h4⟩| @cons X R h3 h4 h5=>rw[List.length_append] at h2;cases h5 with|last h6 h7=>exact .inr ⟨X,R,rfl,h3,h4,h7⟩| @cons Y R' h6 h7 h8=>rw[List.length_append] at h2;omega
theorem dA.AF{n:Nat}{R:List ag}(h:dA n R)(h2:R.length≤n)(hn:0<n):cB ao R:=by
 cases h with|last h3 h4=>exact h4| @cons X R h3 h4 h5=>rw[List.length_append] at h2;have:R=[]:=List.length_eq_zero_iff.1 (by omega);rw[this,List.append_nil];exact h4
theorem mr(X:List ag):cB ao (aq ao [] X)∧(aq ao [] X).Perm X∧(aq ao [] X).length=X.length:=by
 have h2:(aq ao [] X).Perm X:=by simpa using bD ao X []
 exact⟨ib dj.rR X [] List.Pairwise.nil,h2,h2.length_eq⟩
end Go.Proofs.YtodpdjehjllhdaaGreatDoor
