/- Part of a proof: contracts and plain laws. -/
import Derived.Test.YtodpdjehjllhdaaGreatDoorK18
set_option linter.unusedVariables false
set_option linter.unusedSimpArgs false
set_option maxRecDepth 100000
set_option maxHeartbeats 20000000
namespace Go.Proofs.YtodpdjehjllhdaaGreatDoor
open Go.RowKit
theorem jw{A Y S:List ag}{m i:Nat}(hA:A.length=m)(hmi:m≤i)(hi:i≤m+Y.length): ∀y,(Y.take (i-m)).getLast? =some y→m<i∧(A++Y++S).getD (i-1) default=y:=by
 intro y hy;rw[List.getLast?_take] at hy;split at hy;·cases hy
 ·rename_i hne;have hlt:i-m-1<Y.length:=by omega
  rw[List.getElem?_eq_getElem hlt] at hy;refine⟨by omega,?_⟩;rw[List.getD_eq_getElem?_getD,List.append_assoc,List.getElem?_append_right (by omega),List.getElem?_append_left (by omega),show i-1-A.length=i-m-1 by omega,List.getElem?_eq_getElem hlt];simpa using hy
theorem jr{A Y S:List ag}{m i:Nat}(hA:A.length=m)(hmi:m≤i): ∀y,(Y.drop (i-m)).head? =some y→i<m+Y.length∧(A++Y++S).getD i default=y:=by
 intro y hy;rw[List.head?_drop] at hy;by_cases hlt:i-m<Y.length;·refine⟨by omega,?_⟩;rw[List.getD_eq_getElem?_getD,List.append_assoc,List.getElem?_append_right (by omega),List.getElem?_append_left (by omega),show i-A.length=i-m by omega,hy];rfl
 ·rw[List.getElem?_eq_none (by omega)] at hy;cases hy
theorem zW{P Y S:List ag}{x:ag}{m b i:Nat}(hP:P.length+1=m)(hY:Y.length=b-m)(h1:m≤i)(h2:i≤b)(sY:cn an Y)(c1:i=m∨an ((P++[x]++Y++S).getD (i-1) default) x=true)(c2:i=b∨an ((P++[x]++Y++S).getD i default) x=false):cn an (Y.take (i-m)++x::Y.drop (i-m))∧(Y.take (i-m)++x::Y.drop (i-m)).Perm ([x]++Y):=by
 have e:=List.take_append_drop (i-m) Y;have hA:(P++[x]).length=m:=by simpa using hP
 have h:=vz cY.sA (x:=x) (Y1:=Y.take (i-m)) (Y2:=Y.drop (i-m)) (by rw[e];exact sY) (fun y hy=> ?_) (fun y hy=> ?_);·rw[e] at h;exact h
 ·obtain⟨h3,h4⟩:=jw (S:=S) hA h1 (by omega) y hy;rw[h4] at c1;rcases c1 with c1|c1;·omega
  ·exact c1
 ·obtain⟨h3,h4⟩:=jr (S:=S) hA h1 y hy;rw[h4] at c2;rcases c2 with c2|c2;·omega
  ·exact c2
theorem zM{P X S:List ag}{y:ag}{a m i:Nat}(hP:P.length=a)(hX:X.length=m-a)(h1:a≤i)(h2:i≤m)(sX:cn an X)(c1:i=a∨an y ((P++X++[y]++S).getD (i-1) default)=false)(c2:i=m∨an y ((P++X++[y]++S).getD i default)=true):cn an (X.take (i-a)++y::X.drop (i-a))∧(X.take (i-a)++y::X.drop (i-a)).Perm (X++[y]):=by
 have e:=List.take_append_drop (i-a) X;rw[List.append_assoc (P++X)] at c1 c2;have h:=tZ cY.sA (y:=y) (X1:=X.take (i-a)) (X2:=X.drop (i-a)) (by rw[e];exact sX) (fun x hx=> ?_) (fun x hx=> ?_);·rw[e] at h;exact h
 ·obtain⟨h3,h4⟩:=jw (S:=[y]++S) hP h1 (by omega) x hx;rw[h4] at c1;rcases c1 with c1|c1;·omega
  ·exact c1
 ·obtain⟨h3,h4⟩:=jr (S:=[y]++S) hP h1 x hx;rw[h4] at c2;rcases c2 with c2|c2;·omega
  ·exact c2
theorem zl{P X Y S:List ag}{a m b s e:Nat}(hP:P.length=a)(hX:X.length=m-a)(hY:Y.length=b-m)(has:a≤s)(hsm:s≤m)(hme:m≤e)(heb:e≤b)(sX:cn an X)(sY:cn an Y)(c1:s=a∨e=b∨an ((P++X++Y++S).getD e default) ((P++X++Y++S).getD (s-1) default)=false)(c2:s=m∨e=m∨an ((P++X++Y++S).getD (e-1) default) ((P++X++Y++S).getD s default)=true){Z1 Z2:List ag}(p1:Z1.Perm (X.take (s-a)++Y.take (e-m)))(p2:Z2.Perm (X.drop (s-a)++Y.drop (e-m)))(s1:cn an Z1)(s2:cn an Z2):cn an (Z1++Z2)∧(Z1++Z2).Perm (X++Y):=by
 have ham:a≤m:=by omega
 have eX:=List.take_append_drop (s-a) X;have eY:=List.take_append_drop (e-m) Y;have hA:(P++X).length=m:=by rw[List.length_append];omega
 have lX: ∀x,(X.take (s-a)).getLast? =some x→a<s∧(P++X++Y++S).getD (s-1) default=x:=fun x hx=>by have h:=jw (S:=Y++S) hP has (by omega) x hx;rwa[←List.append_assoc] at h
 have hX2: ∀x,(X.drop (s-a)).head? =some x→s<a+X.length∧(P++X++Y++S).getD s default=x:=fun x hx=>by have h:=jr (S:=Y++S) hP has x hx;rwa[←List.append_assoc] at h
 have h:=vM cY.sA (X1:=X.take (s-a)) (X2:=X.drop (s-a)) (Y1:=Y.take (e-m)) (Y2:=Y.drop (e-m)) (by rw[eX];exact sX) (by rw[eY];exact sY) (fun x y hx hy=> ?_) (fun x y hx hy=> ?_) p1 p2 s1 s2;·rw[eX,eY] at h;exact h
 ·obtain⟨h3,h4⟩:=lX x hx;obtain⟨h5,h6⟩:=jr (S:=S) hA hme y hy;rw[h4,h6] at c1;rcases c1 with c1|c1|c1;·omega
  ·omega
  ·exact c1
 ·obtain⟨h3,h4⟩:=jw (S:=S) hA hme (by omega) x hx;obtain⟨h5,h6⟩:=hX2 y hy;rw[h4,h6] at c2;rcases c2 with c2|c2|c2;·omega
  ·omega
  ·exact cY.sA.td _ _ c2
theorem bk.zf{base:Nat}{w:World}{g c:Nat}{l:List ag}(h:bk base w g c l){i:Nat}(hi:i<l.length): ∃(x:ag) (A':Option Addr) (c':Nat),x=l.getD i default∧SA w x.p A' c'∧w.cell? ⟨g,i*2,none⟩=some (.int .i64 x.kind)∧w.cell? ⟨g,i*2+1,none⟩=some (.slice A' x.p.length c'):=by
 obtain⟨A',c',h1,h2,h3,h4⟩:=h.at hi;refine⟨l[i],A',c',?_,h2,h3,h4⟩;rw[List.getD_eq_getElem?_getD,List.getElem?_eq_getElem hi];rfl
theorem bk.swp{base:Nat}{w:World}{g c:Nat}{l:List ag}(h:bk base w g c l){i j:Nat}(hi:i<l.length)(hj:j<l.length): ∃(x y:ag) (Ax Ay:Option Addr) (cx cy:Nat),(w.cell? ⟨g,i*2,none⟩=some (.int .i64 x.kind)∧w.cell? ⟨g,i*2+1,none⟩=some (.slice Ax x.p.length cx))∧(w.cell? ⟨g,j*2,none⟩=some (.int .i64 y.kind)∧w.cell? ⟨g,j*2+1,none⟩=some (.slice Ay y.p.length cy))∧bk base (bn (bn w g (i*2) [.int .i64 y.kind,.slice Ay y.p.length cy]) g (j*2) [.int .i64 x.kind,.slice Ax x.p.length cx]) g c (kq l i j)∧Kept [g] w (bn (bn w g (i*2) [.int .i64 y.kind,.slice Ay y.p.length cy]) g (j*2) [.int .i64 x.kind,.slice Ax x.p.length cx])∧(w.frozen? ⟨g,i*2,none⟩=false∧w.frozen? ⟨g,i*2+1,none⟩=false)∧(w.frozen? ⟨g,j*2,none⟩=false∧w.frozen? ⟨g,j*2+1,none⟩=false):=by
 obtain⟨Ax,cx,hRx,hSx,x0,x1⟩:=h.at hi;obtain⟨Ay,cy,hRy,hSy,y0,y1⟩:=h.at hj;exact⟨l[i],l[j],Ax,Ay,cx,cy,⟨x0,x1⟩,⟨y0,y1⟩,h.yD hi hj hRx hRy,(eh w g (i*2) _).trans (eh _ g (j*2) _),h.facts hi,h.facts hj⟩
theorem zP{a m b k:Nat}(ham:a<m)(hmb:m<b)(hk1:2*k≤a+b)(hk2:a+b<2*k+2)(h1:m≠a+1)(h2:b≠m+1): ∃s0 r0:Nat,a≤s0∧s0≤r0∧r0≤m∧r0≤k∧m+k≤s0+b∧m≤m+k-r0∧(s0=a∨m+k-s0=b)∧(r0=m∨m+k-r0=m)∧((k<m∧(s0:Int)=(k:Int)+(m:Int)-(b:Int)∧r0=k)∨(m≤k∧s0=a∧r0=m)):=by
 rcases Nat.lt_or_ge k m with h|h;·exact⟨k+m-b,k,by omega,by omega,by omega,by omega,by omega,by omega,Or.inr (by omega),Or.inr (by omega),Or.inl ⟨h,by omega,rfl⟩⟩
 ·exact⟨a,m,by omega,by omega,by omega,by omega,by omega,by omega,Or.inl rfl,Or.inl rfl,Or.inr ⟨h,rfl,rfl⟩⟩
theorem yL{P X Y S:List ag}{a m b s e:Nat}(hP:P.length=a)(hX:X.length=m-a)(hY:Y.length=b-m)(ham:a≤m)(has:a≤s)(hsm:s≤m)(hme:m≤e)(heb:e≤b):gV (P++X.take (s-a)++Y.take (e-m)++(X.drop (s-a)++Y.drop (e-m)++S)) (P++X++Y++S) m (m-s) (e-m):=by
 have eX:=List.take_append_drop (s-a) X;have eY:=List.take_append_drop (e-m) Y;refine⟨P++X.take (s-a),X.drop (s-a),Y.take (e-m),Y.drop (e-m)++S,?_,by simp,by rw[List.length_drop];omega,by rw[List.length_take];omega,by rw[List.length_append,List.length_take];omega⟩;conv=>lhs;rw[←eX]
 simp only[List.append_assoc];rw[←List.append_assoc (List.take (e-m) Y) (List.drop (e-m) Y),eY]
theorem wF{P X Y S:List ag}{a m b s e:Nat}(hP:P.length=a)(hX:X.length=m-a)(hY:Y.length=b-m)(ham:a≤m)(has:a≤s)(hsm:s≤m)(hme:m≤e)(heb:e≤b)(h: ¬(s<m∧m<e)):P++X.take (s-a)++Y.take (e-m)++(X.drop (s-a)++Y.drop (e-m)++S)=P++X++Y++S:=by
 have eX:=List.take_append_drop (s-a) X;have eY:=List.take_append_drop (e-m) Y;by_cases h1:s=m;·rw[h1,←hX,List.take_length,List.drop_length];simp only[List.append_assoc,List.nil_append];rw[←List.append_assoc (List.take (e-m) Y),eY]
 ·have h2:e-m=0:=by omega
  rw[h2,List.take_zero,List.drop_zero];simp only[List.append_assoc,List.nil_append];rw[←List.append_assoc (List.take (s-a) X),eX]
theorem kR{X:List ag}{k:Nat}(h:cn an X):cn an (X.take k):=List.Pairwise.sublist (List.take_sublist k X) h
theorem lk{X:List ag}{k:Nat}(h:cn an X):cn an (X.drop k):=List.Pairwise.sublist (List.drop_sublist k X) h
theorem rC{X Y:List ag}(hX:cn an X)(hY:cn an Y)(h: ¬(0<X.length∧0<Y.length)):cn an (X++Y):=by
 by_cases h1:X.length=0;·rw[List.length_eq_zero_iff.1 h1];exact hY
 ·have h2:Y.length=0:=by omega
  rw[List.length_eq_zero_iff.1 h2,List.append_nil];exact hX
theorem pb(l P Y S:List ag)(x:ag)(a m b:Nat)(he:l=P++[x]++Y++S)(hP:P.length=a)(hm:m=a+1)(hY:Y.length=b-m)(hmb:m<b)(sY:cn an Y)(hl:l.length≤1048576)(base g c:Nat)(w:World)(h:bk base w g c l)(hcf: ∀(a:Array Value)(w:World),(callFunc 157 a).run Tryz.prog w=.ok (.enter 157 a) w):Calls Tryz.prog 254 #[.slice (some ⟨g,0,none⟩) l.length c,.int .i64 (a:Int),.int .i64 (m:Int),.int .i64 (b:Int),.func (.func 157) #[] #[]] w (fun e w'=>e=.returned (.tuple #[])∧ ∃Z,(cn an Z∧Z.Perm ([x]++Y))∧bk base w' g c (P++Z++S)∧Kept [g] w w'):=by
 have hln:l.length=a+1+(b-m)+S.length:=by rw[he];simp;omega
 have hxa:l.getD a default=x:=by rw[he,show P++[x]++Y++S=P++x::(Y++S) by simp];exact gW hP
 obtain⟨N,hN⟩: ∃N,N=l.length:=⟨_,rfl⟩;rw[←hN] at hln hl ⊢;have hbN:b≤N:=by omega
 have HE:=Ad (Ac he (Ac hP (Ac hY (Ac sY (Ac hN hxa)))));have HR:=Ad h;have hw1:IntKind.i64.wrap ((m:Int)-(a:Int))=1:=by rw[IntKind.wrap_i64];omega
 have ham:a<m:=by omega
 have HM:=Ad hm;clear he hP hY sY hN hxa h hln hm;go_enter Tryz.func254,Tryz.ntmps254;go_wp2_with fail;go_loopg[10,11] (b-m) (fun gk s10 s11 wr=> ∃i j:Nat,s10=.int .i64 (i:Int)∧s11=.int .i64 (j:Int)∧m≤i∧i≤j∧j≤b∧gk=j-i∧Hid ((i=m∨an (l.getD (i-1) default) x=true)∧(j=b∨an (l.getD j default) x=false)∧bk base wr g c l∧Kept [g] w wr));case atStart=>exact⟨m,b,rfl,rfl,by omega,by omega,by omega,rfl,Ad ⟨.inl rfl,.inl rfl,HR.out,Kept.refl _ _⟩⟩
 case round=>
  obtain⟨i,j,rfl,rfl,h1,h2,h3,rfl,HQ⟩:=hrel;by_cases hlt:i<j
  ·have hlt':(i:Int)<j:=by omega
   obtain⟨H,hH⟩: ∃H,H=(i+j)/2:=⟨_,rfl⟩;have hH1:i≤H:=by omega
   have hH2:H<j:=by omega
   have hHi:((i:Int)+(j:Int))/2=(H:Int):=by omega
   clear hH;go_wp2_with fail;clear hHi;have hk1:(0:Int)≤H:=by omega
   have hk2:(H:Int)<N:=by omega
   have hk3:(0:Int)≤a:=by omega
   have hk4:(a:Int)<N:=by omega
   obtain⟨X1,A1,c1,hX1,hS1,x0,x1⟩:=HQ.out.2.2.1.zf (i:=H) (by rw[←HE.out.2.2.2.2.1];omega);obtain⟨X2,A2,c2,hX2,hS2,y0,y1⟩:=HQ.out.2.2.1.zf (i:=a) (by rw[←HE.out.2.2.2.2.1];omega);obtain⟨r,hr⟩: ∃r,r=fp X1 X2:=⟨_,rfl⟩;have hlt2:=ib X1 X2;rw[←hr] at hlt2;have hgl:=HQ.out.2.2.1.lt;have HX:=Ad (Ac hr (Ac hlt2 (Ac hX1 hX2)));clear hr hlt2 hX1 hX2;have HS:=Ad (Ac hS1 (Ac hS2 True.intro));clear hS1 hS2;go_region_held3(fun u=>u.cell? ⟨g,H*2,none⟩=some (.int .i64 X1.kind)∧u.cell? ⟨g,H*2+1,none⟩=some (.slice A1 X1.p.length c1)∧u.cell? ⟨g,a*2,none⟩=some (.int .i64 X2.kind)∧u.cell? ⟨g,a*2+1,none⟩=some (.slice A2 X2.p.length c2)) (go_keep) (first|(go_at_call 157;(refine(cM X1 X2 A1 A2 c1 c2 _ (by first|exact HS.out.1|exact HS.out.1.drew) (by first|exact HS.out.2.1|exact HS.out.2.1.drew)).mono ?_;rintro e w3 ⟨rfl,hb3⟩;rw[←HX.out.1];have HB3:=Ad (Ac (show Below wr.heap.size wr w3 from(by first|exact hb3|exact ai (ae wr).drew hb3)) True.intro);have zx0:=(HB3.out.1.cell (p:=⟨g,_,none⟩) hgl).trans x0;have zx1:=(HB3.out.1.cell (p:=⟨g,_,none⟩) hgl).trans x1;have zy0:=(HB3.out.1.cell (p:=⟨g,_,none⟩) hgl).trans y0;have zy1:=(HB3.out.1.cell (p:=⟨g,_,none⟩) hgl).trans y1;clear hb3)))
   all_goals
    by_cases hneg:r<0
    ·go_wp2_with fail;go_roundg(j-(H+1));case measure=>omega
     case rel=>refine⟨H+1,j,by first|rfl|go_num,rfl,by omega,by omega,by omega,rfl,Ad ⟨.inr ?_,HQ.out.2.1,HQ.out.2.2.1.below HB3.out.1,HQ.out.2.2.2.trans (Kept.az HB3.out.1)⟩⟩;rw[show H+1-1=H by omega,←HX.out.2.2.1,←HE.out.2.2.2.2.2,←HX.out.2.2.2,←HX.out.2.1];exact decide_eq_true hneg
    ·go_wp2_with fail;go_roundg(H-i);case measure=>omega
     case rel=>refine⟨i,H,rfl,by first|rfl|go_num,by omega,by omega,by omega,rfl,Ad ⟨HQ.out.1,.inr ?_,HQ.out.2.2.1.below HB3.out.1,HQ.out.2.2.2.trans (Kept.az HB3.out.1)⟩⟩;rw[←HX.out.2.2.1,←HE.out.2.2.2.2.2,←HX.out.2.2.2,←HX.out.2.1];exact decide_eq_false (by omega)
  ·have e:i=j:=by omega
   subst e;have hZ:=zW (P:=P) (Y:=Y) (S:=S) (x:=x) (m:=m) (b:=b) (i:=i) (by rw[HE.out.2.1];exact HM.out.symm) HE.out.2.2.1 h1 h3 HE.out.2.2.2.1 (by rw[←HE.out.1];exact HQ.out.1) (by rw[←HE.out.1];exact HQ.out.2.1);obtain⟨I,hI⟩: ∃I,I=i-m:=⟨_,rfl⟩;rw[←hI] at hZ;have hIY:I≤b-m:=by omega
   have him:i=m+I:=by omega
   have HZ:=Ad hZ;clear hZ hI;have hrow0:bk base wr g c (ey P Y S x 0):=by(have e:ey P Y S x 0=l:=by unfold ey;rw[HE.out.1];simp);rw[e];exact HQ.out.2.2.1
   have HK:=Ad (Ac hrow0 HQ.out.2.2.2);clear hrow0 HQ;have hij: ¬((i:Int)<(i:Int)):=by omega
   have hiw:IntKind.i64.wrap ((i:Int)-1)=(a:Int)+(I:Int):=by rw[IntKind.wrap_i64];have:=HM.out;omega
   subst him;clear h2 hlt h1;go_wp2_with fail;go_loopg[13] I (fun gk s13 wx=> ∃k:Nat,s13=.int .i64 ((a+k:Nat):Int)∧k≤I∧gk=I-k∧Hid (bk base wx g c (ey P Y S x k)∧Kept [g] w wx));case atStart=>exact⟨0,by simp,by omega,by omega,Ad HK.out⟩
   case round=>
    obtain⟨k,rfl,hk,rfl,HK2⟩:=hrel;by_cases hlk:k<I
    ·obtain⟨K,hK⟩: ∃K,K=a+k:=⟨_,rfl⟩;have hkY:k<Y.length:=by rw[HE.out.2.2.1];omega
     have hlen:(ey P Y S x k).length=N:=by rw[HE.out.2.2.2.2.1,HE.out.1];unfold ey;simp;omega
     have hsw:kq (ey P Y S x k) K (K+1)=ey P Y S x (k+1):=by rw[←lO P Y S x hkY,jA P Y S x hkY];exact vn (by rw[List.length_append,List.length_take,HE.out.2.1];omega) rfl
     obtain⟨X1,X2,A1,A2,c1,c2,⟨x0,x1⟩,⟨y0,y1⟩,hrow2,hk2,⟨fx0,fx1⟩,⟨fy0,fy1⟩⟩:=HK2.out.1.swp (i:=K) (j:=K+1) (by omega) (by omega);rw[hsw] at hrow2;have HW:=Ad (Ac hrow2 (HK2.out.2.trans hk2));clear hrow2 hk2 hsw hlen hkY;have hN: ∀l':List ag,l'.length=N→True:=fun _ _=>trivial;rw[←hK];have hq1:(K:Int)<(m:Int)+(I:Int)-1:=by have:=HM.out;omega
     have hq2:(0:Int)≤K:=by omega
     have hq3:(K:Int)<N:=by omega
     have hq4:(K:Int)+1<N:=by omega
     have hq5:(0:Int)≤(K:Int)+1:=by omega
     have hq6:IntKind.i64.wrap ((K:Int)+1)=(K:Int)+1:=by rw[IntKind.wrap_i64];omega
     have hq7:((K:Int)+1).toNat=K+1:=by omega
     have hne1:K*2≠(K+1)*2:=by omega
     have hne2:(K+1)*2≠K*2:=by omega
     have hne3:K*2+1≠(K+1)*2:=by omega
     have hne4:(K+1)*2≠K*2+1:=by omega
     have hne5:K*2≠(K+1)*2+1:=by omega
     have hne6:(K+1)*2+1≠K*2:=by omega
     have HKK:=Ad hK;clear hK;go_wp2_with fail;go_region_law(fail)
     all_goals
      go_wp2_with fail;go_roundg(I-(k+1));case measure=>omega
      case rel=>exact⟨k+1,by first|(rw[show a+(k+1)=K+1 by have:=HKK.out;omega];first|rfl|go_num),by omega,rfl,Ad ⟨bk.below HW.out.1 (ae _).drew,HW.out.2.trans (Kept.az (ae _).drew)⟩⟩
    ·have e:k=I:=by omega
     subst e;have hq1: ¬((a:Int)+(k:Int)<(m:Int)+(k:Int)-1):=by have:=HM.out;omega
     go_wp2_with fail;refine bodyPost_ret (v:=.tuple #[]) (by simp[results,Tryz.results254,go_sem]) rfl ?_;exact⟨rfl,Y.take k++x::Y.drop k,HZ.out,by have h:=HK2.out.1;unfold ey at h;rwa[List.append_assoc] at h,HK2.out.2⟩
theorem oX(l P X S:List ag)(y:ag)(a m b:Nat)(he:l=P++X++[y]++S)(hP:P.length=a)(hm:b=m+1)(hX:X.length=m-a)(ham:a<m)(hm1:m≠a+1)(sX:cn an X)(hl:l.length≤1048576)(base g c:Nat)(w:World)(h:bk base w g c l)(hcf: ∀(a:Array Value)(w:World),(callFunc 157 a).run Tryz.prog w=.ok (.enter 157 a) w):Calls Tryz.prog 254 #[.slice (some ⟨g,0,none⟩) l.length c,.int .i64 (a:Int),.int .i64 (m:Int),.int .i64 (b:Int),.func (.func 157) #[] #[]] w (fun e w'=>e=.returned (.tuple #[])∧ ∃Z,(cn an Z∧Z.Perm (X++[y]))∧bk base w' g c (P++Z++S)∧Kept [g] w w'):=by
 have hln:l.length=a+(m-a)+1+S.length:=by rw[he];simp;omega
 have hxa:l.getD m default=y:=by rw[he,show P++X++[y]++S=(P++X)++y::S by simp];exact gW (by rw[List.length_append];omega)
 obtain⟨N,hN⟩: ∃N,N=l.length:=⟨_,rfl⟩;rw[←hN] at hln hl ⊢;have hbN:m<N:=by omega
 have HE:=Ad (Ac he (Ac hP (Ac hX (Ac sX (Ac hN hxa)))));have HR:=Ad h;have hw0:IntKind.i64.wrap ((m:Int)-(a:Int))=(m:Int)-(a:Int):=by rw[IntKind.wrap_i64];omega
 have hw1:IntKind.i64.wrap ((b:Int)-(m:Int))=1:=by rw[IntKind.wrap_i64];omega
 have hw2:((m:Int)-(a:Int)==1)=false:=by simp;omega
 have HM:=Ad hm;clear he hP hX sX hN hxa h hln hm;go_enter Tryz.func254,Tryz.ntmps254;go_wp2_with fail;go_loopg[14,15] (m-a) (fun gk s14 s15 wr=> ∃i j:Nat,s14=.int .i64 (i:Int)∧s15=.int .i64 (j:Int)∧a≤i∧i≤j∧j≤m∧gk=j-i∧Hid ((i=a∨an y (l.getD (i-1) default)=false)∧(j=m∨an y (l.getD j default)=true)∧bk base wr g c l∧Kept [g] w wr));case atStart=>exact⟨a,m,rfl,rfl,by omega,by omega,by omega,rfl,Ad ⟨.inl rfl,.inl rfl,HR.out,Kept.refl _ _⟩⟩
 case round=>
  obtain⟨i,j,rfl,rfl,h1,h2,h3,rfl,HQ⟩:=hrel;by_cases hlt:i<j
  ·have hlt':(i:Int)<j:=by omega
   obtain⟨H,hH⟩: ∃H,H=(i+j)/2:=⟨_,rfl⟩;have hH1:i≤H:=by omega
   have hH2:H<j:=by omega
   have hHi:((i:Int)+(j:Int))/2=(H:Int):=by omega
   clear hH;go_wp2_with fail;clear hHi;have hk1:(0:Int)≤H:=by omega
   have hk2:(H:Int)<N:=by omega
   have hk3:(0:Int)≤m:=by omega
   have hk4:(m:Int)<N:=by omega
   obtain⟨X1,A1,c1,hX1,hS1,x0,x1⟩:=HQ.out.2.2.1.zf (i:=m) (by rw[←HE.out.2.2.2.2.1];omega);obtain⟨X2,A2,c2,hX2,hS2,y0,y1⟩:=HQ.out.2.2.1.zf (i:=H) (by rw[←HE.out.2.2.2.2.1];omega);obtain⟨r,hr⟩: ∃r,r=fp X1 X2:=⟨_,rfl⟩;have hlt2:=ib X1 X2;rw[←hr] at hlt2;have hgl:=HQ.out.2.2.1.lt;have HX:=Ad (Ac hr (Ac hlt2 (Ac hX1 hX2)));clear hr hlt2 hX1 hX2;have HS:=Ad (Ac hS1 (Ac hS2 True.intro));clear hS1 hS2;go_region_held3(fun u=>u.cell? ⟨g,m*2,none⟩=some (.int .i64 X1.kind)∧u.cell? ⟨g,m*2+1,none⟩=some (.slice A1 X1.p.length c1)∧u.cell? ⟨g,H*2,none⟩=some (.int .i64 X2.kind)∧u.cell? ⟨g,H*2+1,none⟩=some (.slice A2 X2.p.length c2)) (go_keep) (first|(go_at_call 157;(refine(cM X1 X2 A1 A2 c1 c2 _ (by first|exact HS.out.1|exact HS.out.1.drew) (by first|exact HS.out.2.1|exact HS.out.2.1.drew)).mono ?_;rintro e w3 ⟨rfl,hb3⟩;rw[←HX.out.1];have HB3:=Ad (Ac (show Below wr.heap.size wr w3 from(by first|exact hb3|exact ai (ae wr).drew hb3)) True.intro);have zx0:=(HB3.out.1.cell (p:=⟨g,_,none⟩) hgl).trans x0;have zx1:=(HB3.out.1.cell (p:=⟨g,_,none⟩) hgl).trans x1;have zy0:=(HB3.out.1.cell (p:=⟨g,_,none⟩) hgl).trans y0;have zy1:=(HB3.out.1.cell (p:=⟨g,_,none⟩) hgl).trans y1;clear hb3)))
   all_goals
    obtain⟨d,hd⟩: ∃d,d=decide (r<0):=⟨_,rfl⟩;rw[←hd];have HD:=Ad hd;clear hd;cases d;rotate_left
    ·have hnb:=HD.out.symm;go_wp2_with fail;go_roundg(H-i);case measure=>omega
     case rel=>refine⟨i,H,rfl,by first|rfl|go_num,by omega,by omega,by omega,rfl,Ad ⟨HQ.out.1,.inr ?_,HQ.out.2.2.1.below HB3.out.1,HQ.out.2.2.2.trans (Kept.az HB3.out.1)⟩⟩;rw[←HX.out.2.2.2,←HE.out.2.2.2.2.2,←HX.out.2.2.1,←HX.out.2.1];exact hnb
    ·have hnb:=HD.out.symm;go_wp2_with fail;go_roundg(j-(H+1));case measure=>omega
     case rel=>refine⟨H+1,j,by first|rfl|go_num,rfl,by omega,by omega,by omega,rfl,Ad ⟨.inr ?_,HQ.out.2.1,HQ.out.2.2.1.below HB3.out.1,HQ.out.2.2.2.trans (Kept.az HB3.out.1)⟩⟩;rw[show H+1-1=H by omega,←HX.out.2.2.2,←HE.out.2.2.2.2.2,←HX.out.2.2.1,←HX.out.2.1];exact hnb
  ·have e:i=j:=by omega
   subst e;have hZ:=zM (P:=P) (X:=X) (S:=S) (y:=y) (a:=a) (m:=m) (i:=i) HE.out.2.1 HE.out.2.2.1 h1 h3 HE.out.2.2.2.1 (by rw[←HE.out.1];exact HQ.out.1) (by rw[←HE.out.1];exact HQ.out.2.1);obtain⟨I,hI⟩: ∃I,I=i-a:=⟨_,rfl⟩;rw[←hI] at hZ;have hIY:I≤m-a:=by omega
   have him:i=a+I:=by omega
   have HZ:=Ad hZ;clear hZ hI;have hrow0:bk base wr g c (ey P X S y (m-a)):=by(have e:ey P X S y (m-a)=l:=by unfold ey;rw[HE.out.1,←HE.out.2.2.1,List.take_length,List.drop_length];simp);rw[e];exact HQ.out.2.2.1
   have HK:=Ad (Ac hrow0 HQ.out.2.2.2);clear hrow0 HQ;have hij: ¬((i:Int)<(i:Int)):=by omega
   subst him;clear h2 hlt h1;go_wp2_with fail;go_loopg[17] (m-a-I) (fun gk s17 wx=> ∃k:Nat,s17=.int .i64 ((a+k:Nat):Int)∧I≤k∧k≤m-a∧gk=k-I∧Hid (bk base wx g c (ey P X S y k)∧Kept [g] w wx));case atStart=>exact⟨m-a,by congr 1;omega,by omega,by omega,by omega,Ad HK.out⟩
   case round=>
    obtain⟨k,rfl,hk,hkm,rfl,HK2⟩:=hrel;by_cases hlk:I<k
    ·obtain⟨t,rfl⟩: ∃t,k=t+1:=⟨k-1,by omega⟩;obtain⟨K,hK⟩: ∃K,K=a+t:=⟨_,rfl⟩;have hkY:t<X.length:=by rw[HE.out.2.2.1];omega
     have hlen:(ey P X S y (t+1)).length=N:=by rw[HE.out.2.2.2.2.1,HE.out.1];unfold ey;simp;omega
     have hsw:kq (ey P X S y (t+1)) (K+1) K=ey P X S y t:=by rw[←lO P X S y hkY,jA P X S y hkY];exact yq (by rw[List.length_append,List.length_take,HE.out.2.1];omega) rfl
     obtain⟨X1,X2,A1,A2,c1,c2,⟨x0,x1⟩,⟨y0,y1⟩,hrow2,hk2,⟨fx0,fx1⟩,⟨fy0,fy1⟩⟩:=HK2.out.1.swp (i:=K+1) (j:=K) (by omega) (by omega);rw[hsw] at hrow2;have HW:=Ad (Ac hrow2 (HK2.out.2.trans hk2));clear hrow2 hk2 hsw hlen hkY;have hq1:(a:Int)+(I:Int)<(K:Int)+1:=by omega
     rw[show a+(t+1)=K+1 by omega];have hq2:(0:Int)≤K:=by omega
     have hq3:(K:Int)<N:=by omega
     have hq4:(K:Int)+1<N:=by omega
     have hq5:(0:Int)≤(K:Int)+1:=by omega
     have hq6:IntKind.i64.wrap ((K:Int)+1-1)=(K:Int):=by rw[IntKind.wrap_i64];omega
     have hq8:IntKind.i64.wrap (K:Int)=(K:Int):=by rw[IntKind.wrap_i64];omega
     have hq7:((K:Int)+1).toNat=K+1:=by omega
     have hne1:K*2≠(K+1)*2:=by omega
     have hne2:(K+1)*2≠K*2:=by omega
     have hne3:K*2+1≠(K+1)*2:=by omega
     have hne4:(K+1)*2≠K*2+1:=by omega
     have hne5:K*2≠(K+1)*2+1:=by omega
     have hne6:(K+1)*2+1≠K*2:=by omega
     have HKK:=Ad hK;clear hK;go_wp2_with fail;go_region_law(fail)
     all_goals
      go_wp2_with fail;go_roundg(t-I);case measure=>omega
      case rel=>exact⟨t,by first|(rw[←HKK.out];done)|(rw[←HKK.out];first|rfl|go_num),by omega,by omega,rfl,Ad ⟨bk.below HW.out.1 (ae _).drew,HW.out.2.trans (Kept.az (ae _).drew)⟩⟩
    ·have e:k=I:=by omega
     subst e;have hq1: ¬((a:Int)+(k:Int)<(a:Int)+(k:Int)):=by omega
     go_wp2_with fail;refine bodyPost_ret (v:=.tuple #[]) (by simp[results,Tryz.results254,go_sem]) rfl ?_;exact⟨rfl,X.take k++y::X.drop k,HZ.out,by have h:=HK2.out.1;unfold ey at h;rwa[List.append_assoc] at h,HK2.out.2⟩
def SymM(n:Nat):Prop:= ∀(l P X Y S:List ag)(a m b:Nat),l=P++X++Y++S→P.length=a→X.length=m-a→Y.length=b-m→a<m→m<b→b-a≤n→cn an X→cn an Y→l.length≤1048576→ ∀(base g c:Nat)(w:World),bk base w g c l→Calls Tryz.prog 254 #[.slice (some ⟨g,0,none⟩) l.length c,.int .i64 (a:Int),.int .i64 (m:Int),.int .i64 (b:Int),.func (.func 157) #[] #[]] w (fun e w'=>e=.returned (.tuple #[])∧ ∃Z,(cn an Z∧Z.Perm (X++Y))∧bk base w' g c (P++Z++S)∧Kept [g] w w')
theorem pg(n:Nat)(IH:SymM n)(l P X Y S:List ag)(a m b:Nat)(he:l=P++X++Y++S)(hP:P.length=a)(hX:X.length=m-a)(hY:Y.length=b-m)(ham:a<m)(hmb:m<b)(hn:b-a≤n+1)(hm1:m≠a+1)(hb1:b≠m+1)(sX:cn an X)(sY:cn an Y)(hl:l.length≤1048576)(base g c:Nat)(w:World)(h:bk base w g c l)(hcf: ∀(a:Array Value)(w:World),(callFunc 157 a).run Tryz.prog w=.ok (.enter 157 a) w):Calls Tryz.prog 254 #[.slice (some ⟨g,0,none⟩) l.length c,.int .i64 (a:Int),.int .i64 (m:Int),.int .i64 (b:Int),.func (.func 157) #[] #[]] w (fun e w'=>e=.returned (.tuple #[])∧ ∃Z,(cn an Z∧Z.Perm (X++Y))∧bk base w' g c (P++Z++S)∧Kept [g] w w'):=by
 have hln:l.length=a+(m-a)+(b-m)+S.length:=by rw[he];simp;omega
 obtain⟨N,hN⟩: ∃N,N=l.length:=⟨_,rfl⟩;rw[←hN] at hln hl ⊢;have hbN:b≤N:=by omega
 obtain⟨k,hk⟩: ∃k,k=(a+b)/2:=⟨_,rfl⟩;obtain⟨s0,r0,ms1,ms2,ms3,ms4,ms5,ms6,ms7,ms8,ms9⟩:=zP (k:=k) ham hmb (by omega) (by omega) hm1 hb1;have hka:a<k:=by omega
 have hkb:k<b:=by omega
 have hki:((a:Int)+(b:Int))/2=(k:Int):=by omega
 have HE:=Ad (Ac he (Ac hP (Ac hX (Ac sX (Ac hN (Ac hY sY))))));have HR:=Ad h;have HI:=Ad IH;have HS9:=Ad ms9;have HS78:=Ad (Ac ms7 ms8);have hw0:IntKind.i64.wrap ((m:Int)-(a:Int))=(m:Int)-(a:Int):=by rw[IntKind.wrap_i64];omega
 have hw1:IntKind.i64.wrap ((b:Int)-(m:Int))=(b:Int)-(m:Int):=by rw[IntKind.wrap_i64];omega
 have hw2:((m:Int)-(a:Int)==1)=false:=by simp;omega
 have hw3:((b:Int)-(m:Int)==1)=false:=by simp;omega
 have hw4:IntKind.i64.wrap ((k:Int)+(m:Int))=(k:Int)+(m:Int):=by rw[IntKind.wrap_i64];omega
 have hw5:IntKind.i64.wrap ((k:Int)+(m:Int)-1)=(k:Int)+(m:Int)-1:=by rw[IntKind.wrap_i64];omega
 have hw6:IntKind.i64.wrap ((k:Int)+(m:Int)-(b:Int))=(k:Int)+(m:Int)-(b:Int):=by rw[IntKind.wrap_i64];omega
 clear he hP hX hY sX sY hN h hln IH hk ms9 ms7 ms8;go_enter Tryz.func254,Tryz.ntmps254;go_upto_if 140 with fail;go_cut[20,21] (fun s20 s21 wx=>s20=.int .i64 (s0:Int)∧s21=.int .i64 (r0:Int)∧Hid (bk base wx g c l∧Kept [g] w wx))
 case first=>
  rcases HS9.out with⟨q1,q2,q3⟩|⟨q1,q2,q3⟩
  ·have q4:(k:Int)<(m:Int):=by omega
   go_wp2_with fail;go_meet;exact⟨by rw[q2],by rw[q3],Ad ⟨HR.out,Kept.refl _ _⟩⟩
  ·have q4: ¬(k:Int)<(m:Int):=by omega
   go_wp2_with fail;go_meet;exact⟨by rw[q2],by rw[q3],Ad ⟨HR.out,Kept.refl _ _⟩⟩
 case rest=>
  obtain⟨rfl,rfl,HQ0⟩:=hcut;go_wp2_with fail;go_loopg[20,21] (r0-s0) (fun gk s20 s21 wr=> ∃s r:Nat,s20=.int .i64 (s:Int)∧s21=.int .i64 (r:Int)∧s0≤s∧s≤r∧r≤r0∧gk=r-s∧Hid ((s=a∨m+k-s=b∨an (l.getD (m+k-s) default) (l.getD (s-1) default)=false)∧(r=m∨m+k-r=m∨an (l.getD (m+k-r-1) default) (l.getD r default)=true)∧bk base wr g c l∧Kept [g] w wr));case atStart=>exact⟨s0,r0,rfl,rfl,by omega,by omega,by omega,rfl,Ad ⟨by rcases HS78.out.1 with h|h<;>simp[h],by rcases HS78.out.2 with h|h<;>simp[h],HQ0.out.1,HQ0.out.2⟩⟩
  case round=>
   obtain⟨i,j,rfl,rfl,h1,h2,h3,rfl,HQ⟩:=hrel;by_cases hlt:i<j
   ·have hlt':(i:Int)<j:=by omega
    obtain⟨H,hH⟩: ∃H,H=(i+j)/2:=⟨_,rfl⟩;have hH1:i≤H:=by omega
    have hH2:H<j:=by omega
    have hHi:((i:Int)+(j:Int))/2=(H:Int):=by omega
    obtain⟨J,hJ⟩: ∃J,J=m+k-H-1:=⟨_,rfl⟩;have hJi:(k:Int)+(m:Int)-1-(H:Int)=(J:Int):=by omega
    have hJw:IntKind.i64.wrap ((k:Int)+(m:Int)-1-(H:Int))=(J:Int):=by rw[IntKind.wrap_i64];omega
    have hJw2:IntKind.i64.wrap (J:Int)=(J:Int):=by rw[IntKind.wrap_i64];omega
    have hJN:J<N:=by omega
    have HHJ:=Ad (Ac hH hJ);clear hH hJ;go_wp2_with fail;clear hHi;have hk1:(0:Int)≤H:=by omega
    have hk2:(H:Int)<N:=by omega
    have hk3:(0:Int)≤J:=by omega
    have hk4:(J:Int)<N:=by omega
    obtain⟨X1,A1,c1,hX1,hS1,x0,x1⟩:=HQ.out.2.2.1.zf (i:=J) (by rw[←HE.out.2.2.2.2.1];omega);obtain⟨X2,A2,c2,hX2,hS2,y0,y1⟩:=HQ.out.2.2.1.zf (i:=H) (by rw[←HE.out.2.2.2.2.1];omega);obtain⟨r,hr⟩: ∃r,r=fp X1 X2:=⟨_,rfl⟩;have hlt2:=ib X1 X2;rw[←hr] at hlt2;have hgl:=HQ.out.2.2.1.lt;have HX:=Ad (Ac hr (Ac hlt2 (Ac hX1 hX2)));clear hr hlt2 hX1 hX2;have HS:=Ad (Ac hS1 (Ac hS2 True.intro));clear hS1 hS2;go_region_held3(fun u=>u.cell? ⟨g,J*2,none⟩=some (.int .i64 X1.kind)∧u.cell? ⟨g,J*2+1,none⟩=some (.slice A1 X1.p.length c1)∧u.cell? ⟨g,H*2,none⟩=some (.int .i64 X2.kind)∧u.cell? ⟨g,H*2+1,none⟩=some (.slice A2 X2.p.length c2)) (go_keep) (first|(go_at_call 157;(refine(cM X1 X2 A1 A2 c1 c2 _ (by first|exact HS.out.1|exact HS.out.1.drew) (by first|exact HS.out.2.1|exact HS.out.2.1.drew)).mono ?_;rintro e w3 ⟨rfl,hb3⟩;rw[←HX.out.1];have HB3:=Ad (Ac (show Below wr.heap.size wr w3 from(by first|exact hb3|exact ai (ae wr).drew hb3)) True.intro);have zx0:=(HB3.out.1.cell (p:=⟨g,_,none⟩) hgl).trans x0;have zx1:=(HB3.out.1.cell (p:=⟨g,_,none⟩) hgl).trans x1;have zy0:=(HB3.out.1.cell (p:=⟨g,_,none⟩) hgl).trans y0;have zy1:=(HB3.out.1.cell (p:=⟨g,_,none⟩) hgl).trans y1;clear hb3)))
    all_goals
     obtain⟨d,hd⟩: ∃d,d=decide (r<0):=⟨_,rfl⟩;rw[←hd];have HD:=Ad hd;clear hd;cases d;rotate_left
     ·have hnb:=HD.out.symm;go_wp2_with fail;go_roundg(H-i);case measure=>omega
      case rel=>refine⟨i,H,rfl,by first|rfl|go_num,by omega,by omega,by omega,rfl,Ad ⟨HQ.out.1,.inr (.inr ?_),HQ.out.2.2.1.below HB3.out.1,HQ.out.2.2.2.trans (Kept.az HB3.out.1)⟩⟩;rw[←HHJ.out.2,←HX.out.2.2.1,←HX.out.2.2.2,←HX.out.2.1];exact hnb
     ·have hnb:=HD.out.symm;go_wp2_with fail;go_roundg(j-(H+1));case measure=>omega
      case rel=>refine⟨H+1,j,by first|rfl|go_num,rfl,by omega,by omega,by omega,rfl,Ad ⟨.inr (.inr ?_),HQ.out.2.1,HQ.out.2.2.1.below HB3.out.1,HQ.out.2.2.2.trans (Kept.az HB3.out.1)⟩⟩;rw[show H+1-1=H by omega,show m+k-(H+1)=J by rw[HHJ.out.2];omega,←HX.out.2.2.1,←HX.out.2.2.2,←HX.out.2.1];exact hnb
   ·have e:i=j:=by omega
    subst e;obtain⟨e,hee⟩: ∃e,e=m+k-i:=⟨_,rfl⟩;have hei:(k:Int)+(m:Int)-(i:Int)=(e:Int):=by omega
    have hew:IntKind.i64.wrap ((k:Int)+(m:Int)-(i:Int))=(e:Int):=by rw[IntKind.wrap_i64];omega
    have hew2:IntKind.i64.wrap (e:Int)=(e:Int):=by rw[IntKind.wrap_i64];omega
    have has:a≤i:=by omega
    have hsm:i≤m:=by omega
    have hme:m≤e:=by omega
    have heb:e≤b:=by omega
    have hek:e-m=k-i:=by omega
    have hek2:e-k=m-i:=by omega
    have hik:i≤k:=by omega
    have hke:k≤e:=by omega
    rw[←hee] at HQ;clear h1 h2 h3 hlt hee ms1 ms2 ms3 ms4 ms5 ms6 HS9 HS78 HQ0;obtain⟨Z1,hZ1⟩: ∃Z1,Z1=X.take (i-a)++Y.take (e-m):=⟨_,rfl⟩;obtain⟨Z2,hZ2⟩: ∃Z2,Z2=X.drop (i-a)++Y.drop (e-m):=⟨_,rfl⟩;have hl1:Z1.length=(i-a)+(k-i):=by rw[hZ1,List.length_append,List.length_take,List.length_take,HE.out.2.2.1,HE.out.2.2.2.2.2.1];omega
    have hl2:Z2.length=(e-k)+(b-e):=by rw[hZ2,List.length_append,List.length_drop,List.length_drop,HE.out.2.2.1,HE.out.2.2.2.2.2.1];omega
    have hlZ:(P++Z1++(Z2++S)).length=N:=by have h:=HE.out.2.2.2.2.1;rw[HE.out.1] at h;simp only[List.length_append] at h ⊢;rw[HE.out.2.2.1,HE.out.2.2.2.2.2.1] at h;omega
    have HZ:=Ad (Ac hZ1 (Ac hZ2 (Ac hl1 (Ac hl2 hlZ))));clear hZ1 hZ2 hl1 hl2 hlZ;have hii: ¬((i:Int)<(i:Int)):=by omega
    go_upto_region 39 with fail;go_cut[185] from 178 to 219 (fun s185 wx=>s185=.bool (decide (i<m∧m<e))∧Hid (bk base wx g c l∧Kept [g] w wx))
    case first=>
     by_cases hc1:i<m
     ·have q1:(i:Int)<(m:Int):=by omega
      by_cases hc2:m<e
      ·have q2:(m:Int)<(e:Int):=by omega
       have hd:decide (i<m∧m<e)=true:=by simp;omega
       go_wp2_with fail;go_meet;exact⟨by rw[hd],Ad ⟨HQ.out.2.2.1,HQ.out.2.2.2⟩⟩
      ·have q2: ¬((m:Int)<(e:Int)):=by omega
       have hd:decide (i<m∧m<e)=false:=by simp;omega
       go_wp2_with fail;go_meet;exact⟨by rw[hd],Ad ⟨HQ.out.2.2.1,HQ.out.2.2.2⟩⟩
     ·have q1: ¬((i:Int)<(m:Int)):=by omega
      have hd:decide (i<m∧m<e)=false:=by simp;omega
      go_wp2_with fail;go_meet;exact⟨by rw[hd],Ad ⟨HQ.out.2.2.1,HQ.out.2.2.2⟩⟩
    case rest=>
     obtain⟨hs185,HQr⟩:=hcut;obtain⟨B1,hB1⟩: ∃B1,B1=decide (i<m∧m<e):=⟨_,rfl⟩;rw[←hB1] at hs185;subst hs185;have HB1:=Ad hB1;clear hB1;go_upto_if 185 with fail;go_cut[24] from 178 to 219 (fun s24 wx=>s24=.int .i64 (e:Int)∧Hid (bk base wx g c (P++Z1++(Z2++S))∧Kept [g] w wx))
     case first=>
      cases B1
      ·have hc: ¬(i<m∧m<e):=of_decide_eq_false HB1.out.symm;have hrt:=wF (S:=S) HE.out.2.1 HE.out.2.2.1 HE.out.2.2.2.2.2.1 (by omega) has hsm hme heb hc;rw[←HE.out.1] at hrt;have hrow:bk base wc g c (P++Z1++(Z2++S)):=by rw[HZ.out.1,HZ.out.2.1,←List.append_assoc P,hrt];exact HQr.out.1
       have HW5:=Ad (Ac hrow HQr.out.2);clear hrow hrt hc;go_wp2_with fail;go_meet;exact⟨rfl,Ad HW5.out⟩
      ·have hc:i<m∧m<e:=of_decide_eq_true HB1.out.symm;have hrt:=yL (S:=S) HE.out.2.1 HE.out.2.2.1 HE.out.2.2.2.2.2.1 (by omega) has hsm hme heb;rw[←HE.out.1] at hrt;have hcl:=fun w0 h0=>tX _ l i m e hc.1 hc.2 hrt (by rw[←HE.out.2.2.2.2.1];exact hl) (.func (.func 157) #[] #[]) base g c w0 h0;rw[←HE.out.2.2.2.2.1] at hcl;have HC:=Ad hcl;clear hcl hrt hc;go_wp2_with fail;refine(HC.out _ HQr.out.1).mono ?_;rintro e5 w5 ⟨rfl,hr5,hk5⟩;have HW5:=Ad (Ac hr5 (HQr.out.2.trans hk5));clear hr5 hk5;go_wp2_with fail;go_meet;refine⟨rfl,Ad ⟨?_,HW5.out.2⟩⟩;rw[HZ.out.1,HZ.out.2.1,←List.append_assoc P];exact HW5.out.1
     case rest=>
      obtain⟨rfl,HQ1⟩:=hcut;have C1:=Ad (Ac HQ.out.1 HQ.out.2.1);clear HQ;go_upto_region 41 with fail;go_cut[199] from 178 to 219 (fun s199 wx=>s199=.bool (decide (a<i∧i<k))∧Hid (bk base wx g c (P++Z1++(Z2++S))∧Kept [g] w wx))
      case first=>
       by_cases hc1:a<i
       ·have q1:(a:Int)<(i:Int):=by omega
        by_cases hc2:i<k
        ·have q2:(i:Int)<(k:Int):=by omega
         have hd:decide (a<i∧i<k)=true:=by simp;omega
         go_wp2_with fail;go_meet;exact⟨by rw[hd],Ad HQ1.out⟩
        ·have q2: ¬((i:Int)<(k:Int)):=by omega
         have hd:decide (a<i∧i<k)=false:=by simp;omega
         go_wp2_with fail;go_meet;exact⟨by rw[hd],Ad HQ1.out⟩
       ·have q1: ¬((a:Int)<(i:Int)):=by omega
        have hd:decide (a<i∧i<k)=false:=by simp;omega
        go_wp2_with fail;go_meet;exact⟨by rw[hd],Ad HQ1.out⟩
      case rest=>
       obtain⟨hs199,HQs⟩:=hcut;obtain⟨B2,hB2⟩: ∃B2,B2=decide (a<i∧i<k):=⟨_,rfl⟩;rw[←hB2] at hs199;subst hs199;have HB2:=Ad hB2;clear hB2;go_upto_if 199 with fail;go_cut[24] from 178 to 219 (fun s24 wx=>s24=.int .i64 (e:Int)∧ ∃Z,Hid ((cn an Z∧Z.Perm Z1)∧bk base wx g c (P++Z++(Z2++S))∧Kept [g] w wx))
       case first=>
        cases B2
        ·have hc: ¬(a<i∧i<k):=of_decide_eq_false HB2.out.symm;have hs1:cn an Z1:=by rw[HZ.out.1];refine rC (kR HE.out.2.2.2.1) (kR HE.out.2.2.2.2.2.2) ?_;rw[List.length_take,List.length_take,HE.out.2.2.1,HE.out.2.2.2.2.2.1];omega
         have HW5:=Ad (Ac (Ac hs1 (List.Perm.refl Z1)) HQs.out);clear hs1 hc;go_wp2_with fail;go_meet;exact⟨rfl,Z1,Ad HW5.out⟩
        ·have hc:a<i∧i<k:=of_decide_eq_true HB2.out.symm;have hcl:=fun w0 h0=>HI.out (P++Z1++(Z2++S)) P (X.take (i-a)) (Y.take (e-m)) (Z2++S) a i k (by rw[HZ.out.1];simp) HE.out.2.1 (by rw[List.length_take,HE.out.2.2.1];omega) (by rw[List.length_take,HE.out.2.2.2.2.2.1];omega) hc.1 hc.2 (by omega) (kR HE.out.2.2.2.1) (kR HE.out.2.2.2.2.2.2) (by rw[HZ.out.2.2.2.2];exact hl) base g c w0 h0;rw[HZ.out.2.2.2.2] at hcl;have HC:=Ad hcl;clear hcl hc;go_wp2_with fail;refine(HC.out _ HQs.out.1).mono ?_;rintro e5 w5 ⟨rfl,Z,hz5,hr5,hk5⟩;rw[←HZ.out.1] at hz5;have HW5:=Ad (Ac hz5 (Ac hr5 (HQs.out.2.trans hk5)));clear hr5 hk5 hz5;go_wp2_with fail;go_meet;exact⟨rfl,Z,Ad HW5.out⟩
       case rest=>
        obtain⟨rfl,ZA,HQ2⟩:=hcut;have hlA:ZA.length=Z1.length:=HQ2.out.1.2.length_eq;have hlN:(P++ZA++(Z2++S)).length=N:=by have h:=HZ.out.2.2.2.2;simp only[List.length_append] at h ⊢;omega
        have HLA:=Ad (Ac hlA hlN);clear hlA hlN;by_cases hc:k<e∧e<b
        ·have q1:(k:Int)<(e:Int):=by omega
         have q2:(e:Int)<(b:Int):=by omega
         have hcl:=fun w0 h0=>HI.out (P++ZA++(Z2++S)) (P++ZA) (X.drop (i-a)) (Y.drop (e-m)) S k e b (by rw[HZ.out.2.1];simp) (by rw[List.length_append,HLA.out.1,HZ.out.2.2.1,HE.out.2.1];omega) (by rw[List.length_drop,HE.out.2.2.1];omega) (by rw[List.length_drop,HE.out.2.2.2.2.2.1];omega) hc.1 hc.2 (by omega) (lk HE.out.2.2.2.1) (lk HE.out.2.2.2.2.2.2) (by rw[HLA.out.2];exact hl) base g c w0 h0;rw[HLA.out.2] at hcl;have HC:=Ad hcl;clear hcl;go_wp2_with fail;refine(HC.out _ HQ2.out.2.1).mono ?_;rintro e5 w5 ⟨rfl,Z,hz5,hr5,hk5⟩;have hM:=zl (Z1:=ZA) (Z2:=Z) (S:=S) HE.out.2.1 HE.out.2.2.1 HE.out.2.2.2.2.2.1 has hsm hme heb HE.out.2.2.2.1 HE.out.2.2.2.2.2.2 (by rw[←HE.out.1];exact C1.out.1) (by rw[←HE.out.1];exact C1.out.2) (by rw[←HZ.out.1];exact HQ2.out.1.2) hz5.2 HQ2.out.1.1 hz5.1;have HW5:=Ad (Ac hM (Ac hr5 (HQ2.out.2.2.trans hk5)));clear hr5 hk5 hz5 hM;go_wp2_with fail;refine bodyPost_end (v:=.tuple #[]) (by simp[results,Tryz.results254,go_sem]) rfl ?_;exact⟨rfl,ZA++Z,HW5.out.1,by have h:=HW5.out.2.1;simpa using h,HW5.out.2.2⟩
        ·have hs2:cn an Z2:=by rw[HZ.out.2.1];refine rC (lk HE.out.2.2.2.1) (lk HE.out.2.2.2.2.2.2) ?_;rw[List.length_drop,List.length_drop,HE.out.2.2.1,HE.out.2.2.2.2.2.1];omega
         have hM:=zl (Z1:=ZA) (Z2:=Z2) (S:=S) HE.out.2.1 HE.out.2.2.1 HE.out.2.2.2.2.2.1 has hsm hme heb HE.out.2.2.2.1 HE.out.2.2.2.2.2.2 (by rw[←HE.out.1];exact C1.out.1) (by rw[←HE.out.1];exact C1.out.2) (by rw[←HZ.out.1];exact HQ2.out.1.2) (by rw[←HZ.out.2.1]) HQ2.out.1.1 hs2;have HW5:=Ad (Ac hM HQ2.out.2);clear hM hs2;by_cases q1:(k:Int)<(e:Int)
         ·have q2: ¬((e:Int)<(b:Int)):=by omega
          go_wp2_with fail;refine bodyPost_end (v:=.tuple #[]) (by simp[results,Tryz.results254,go_sem]) rfl ?_;exact⟨rfl,ZA++Z2,HW5.out.1,by have h:=HW5.out.2.1;simpa using h,HW5.out.2.2⟩
         ·go_wp2_with fail;refine bodyPost_end (v:=.tuple #[]) (by simp[results,Tryz.results254,go_sem]) rfl ?_;exact⟨rfl,ZA++Z2,HW5.out.1,by have h:=HW5.out.2.1;simpa using h,HW5.out.2.2⟩
theorem sE(hcf: ∀(a:Array Value)(w:World),(callFunc 157 a).run Tryz.prog w=.ok (.enter 157 a) w): ∀n,SymM n|0=>fun l P X Y S a m b he hP hX hY ham hmb hn _ _ _ _ _ _ _ _=>absurd hn (by omega)|n+1=>fun l P X Y S a m b he hP hX hY ham hmb hn sX sY hl base g c w h=>by by_cases hm1:m=a+1;(·obtain⟨x,rfl⟩: ∃x,X=[x]:=List.length_eq_one_iff.1 (by omega);exact pb l P Y S x a m b he hP hm1 hY hmb sY hl base g c w h hcf);·by_cases hb1:b=m+1;(·obtain⟨y,rfl⟩: ∃y,Y=[y]:=List.length_eq_one_iff.1 (by omega);exact oX l P X S y a m b he hP hb1 hX ham hm1 sX hl base g c w h hcf);·exact pg n (sE hcf n) l P X Y S a m b he hP hX hY ham hmb hn hm1 hb1 sX sY hl base g c w h hcf
inductive Full (n : Nat) : List ag → Prop
  | nil : Full n []
  | snoc {D X : List ag} : Full n D → X.length = n → cn an X → Full n (D ++ X)
inductive dq (n : Nat) : List ag → Prop
  | last {X : List ag} : X.length ≤ n → cn an X → dq n X
  | cons {X R : List ag} : X.length = n → cn an X → dq n R → dq n (X ++ R)
theorem Full.chunks{n:Nat}{D:List ag}(h:Full n D): ∀{R:List ag},dq n R→dq n (D++R):=by
 induction h with|nil=>intro R h;exact h|snoc _ h2 h3 ih=>intro R h;rw[List.append_assoc];exact ih (.cons h2 h3 h)
theorem dq.two{n:Nat}{R:List ag}(h:dq n R)(h2:2*n≤R.length)(hn:0<n): ∃X Y R',R=X++Y++R'∧X.length=n∧Y.length=n∧cn an X∧cn an Y∧dq n R':=by
 cases h with|last h3 h4=>omega| @cons X R h3 h4 h5=>rw[List.length_append] at h2;cases h5 with|last h6 h7=>exact⟨X,R,[],by simp,h3,by omega,h4,h7,.last (by simp) List.Pairwise.nil⟩| @cons Y R' h6 h7 h8=>exact⟨X,Y,R',by simp,h3,h6,h4,h7,h8⟩
theorem dq.end_{n:Nat}{R:List ag}(h:dq n R)(h2:R.length<2*n)(hn:0<n):(R.length≤n∧cn an R)∨ ∃X Y,R=X++Y∧X.length=n∧cn an X∧cn an Y:=by
 cases h with|last h3 h4=>exact .inl ⟨h3,h4⟩| @cons X R h3 h4 h5=>rw[List.length_append] at h2;cases h5 with|last h6 h7=>exact .inr ⟨X,R,rfl,h3,h4,h7⟩| @cons Y R' h6 h7 h8=>rw[List.length_append] at h2;omega
theorem dq.zZ{n:Nat}{R:List ag}(h:dq n R)(h2:R.length≤n)(hn:0<n):cn an R:=by
 cases h with|last h3 h4=>exact h4| @cons X R h3 h4 h5=>rw[List.length_append] at h2;have:R=[]:=List.length_eq_zero_iff.1 (by omega);rw[this,List.append_nil];exact h4
theorem mB(X:List ag):cn an (ao an [] X)∧(ao an [] X).Perm X∧(ao an [] X).length=X.length:=by
 have h2:(ao an [] X).Perm X:=by simpa using bF an X []
 exact⟨ia cY.sA X [] List.Pairwise.nil,h2,h2.length_eq⟩
end Go.Proofs.YtodpdjehjllhdaaGreatDoor
