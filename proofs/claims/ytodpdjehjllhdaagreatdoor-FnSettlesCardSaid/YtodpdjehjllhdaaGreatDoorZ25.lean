/- Part of a proof: contracts and plain laws. -/
import Derived.Test.YtodpdjehjllhdaaGreatDoorZ24
set_option linter.unusedVariables false
set_option maxRecDepth 100000
set_option maxHeartbeats 20000000
namespace Go.Proofs.YtodpdjehjllhdaaGreatDoor
open Go.RowKit
def jl(l:List ag)(i j:Nat):List ag:=(l.set i (l.getD j default)).set j (l.getD i default)
def kF(l:List ag)(a b:Nat):Nat→List ag|0=>l|n+1=>jl (kF l a b n) (a+n) (b+n)
theorem qY(l:List ag)(i j:Nat):(jl l i j).length=l.length:=by
 simp[jl]
theorem jI(l:List ag)(a b:Nat): ∀n,(kF l a b n).length=l.length|0=>rfl|n+1=>by rw[kF,qY,jI l a b n]
theorem bc.wg{base:Nat}{w:World}{g c:Nat}{l:List ag}{i j:Nat}(h:bc base w g c l)(hi:i<l.length)(hj:j<l.length){Ax Ay:Option Addr}{cx cy:Nat}(hx:RS w (fun b=>(b≠g∧base≤b)∧b<w.heap.size) l[i] [.int .i64 l[i].kind,.slice Ax l[i].p.length cx])(hy:RS w (fun b=>(b≠g∧base≤b)∧b<w.heap.size) l[j] [.int .i64 l[j].kind,.slice Ay l[j].p.length cy]):bc base (bg (bg w g (i*2) [.int .i64 l[j].kind,.slice Ay l[j].p.length cy]) g (j*2) [.int .i64 l[i].kind,.slice Ax l[i].p.length cx]) g c (jl l i j):=by
 have h1:=aB.stored (i:=i) h hi hy (fun b hb=>hb.1.1);have hk: ∀b,((b≠g∧base≤b)∧b<w.heap.size)→(bg w g (i*2) [.int .i64 l[j].kind,.slice Ay l[j].p.length cy]).heap[b]? =w.heap[b]? :=fun b hb=>bp g _ w _ b hb.1.1;have hx':RS (bg w g (i*2) [.int .i64 l[j].kind,.slice Ay l[j].p.length cy]) (fun b=>(b≠g∧base≤b)∧b<w.heap.size) l[i] [.int .i64 l[i].kind,.slice Ax l[i].p.length cx]:=RS.an hx hk (fun b hb=>hb);have h2:=aB.stored (i:=j) h1 (by simpa using hj) hx' (fun b hb=>hb.1.1);have e:(l.set i l[j]).set j l[i]=jl l i j:=by unfold jl;rw[List.getD_eq_getElem?_getD,List.getD_eq_getElem?_getD,List.getElem?_eq_getElem hi,List.getElem?_eq_getElem hj];rfl
 rw[e] at h2;have hlen:=qY l i j;unfold bc;rw[hlen];exact aB.mono h2 fun b hb=>⟨hb.1,by rw[ca,ca];exact hb.2⟩
theorem fO(l:List ag)(a b n:Nat)(ha:a+n≤b)(hb:b+n≤l.length)(hl:l.length≤1048576)(f:Value)(base g c:Nat)(w:World)(h:bc base w g c l):Calls Tryz.prog 326 #[.slice (some ⟨g,0,none⟩) l.length c,.int .i64 (a:Int),.int .i64 (b:Int),.int .i64 (n:Int),f] w (fun e w'=>e=.returned (.tuple #[])∧bc base w' g c (kF l a b n)∧Kept [g] w w'):=by
 have HR:=xQ h;clear h;go_enter Tryz.func326,Tryz.ntmps326;go_wp2_with fail;go_loopg[10] n (fun gk s10 wr=> ∃i:Nat,s10=.int .i64 (i:Int)∧i≤n∧gk=n-i∧bc base wr g c (kF l a b i)∧Kept [g] w wr);case atStart=>exact⟨0,rfl,by omega,rfl,HR.out,Kept.refl _ _⟩
 case round=>
  obtain⟨i,rfl,hi,rfl,hrow,hkept⟩:=hrel;by_cases hlt:i<n
  ·obtain⟨L,hL⟩: ∃L,L=kF l a b i:=⟨_,rfl⟩;have hLl:L.length=l.length:=by rw[hL,jI]
   rw[←hL] at hrow;obtain⟨I,hI⟩: ∃I,I=a+i:=⟨_,rfl⟩;obtain⟨J,hJ⟩: ∃J,J=b+i:=⟨_,rfl⟩;have hIl:I<L.length:=by omega
   have hJl:J<L.length:=by omega
   obtain⟨Ax,cx,hRx,hSx,x0,x1⟩:=hrow.at hIl;obtain⟨Ay,cy,hRy,hSy,y0,y1⟩:=hrow.at hJl;obtain⟨fx0,fx1⟩:=hrow.facts hIl;obtain⟨fy0,fy1⟩:=hrow.facts hJl;have hsw:=hrow.wg hIl hJl hRx hRy;have hsn:jl L I J=kF l a b (i+1):=by rw[kF,←hL,←hI,←hJ]
   rw[hsn] at hsw;obtain⟨X,hX⟩: ∃X,X=L[I]:=⟨_,rfl⟩;obtain⟨Y,hY⟩: ∃Y,Y=L[J]:=⟨_,rfl⟩;rw[←hX,←hY] at hsw;rw[←hX] at x0 x1;rw[←hY] at y0 y1;have HS:=xQ (xP hsw hkept);have hw1:IntKind.i64.wrap ((a:Int)+(i:Int))=(I:Int):=by rw[IntKind.wrap_i64];omega
   have hw2:IntKind.i64.wrap ((b:Int)+(i:Int))=(J:Int):=by rw[IntKind.wrap_i64];omega
   have hk1:(0:Int)≤I:=by omega
   have hk2:(0:Int)≤J:=by omega
   have hk3:(I:Int)<l.length:=by omega
   have hk4:(J:Int)<l.length:=by omega
   have hi1:(i:Int)<n:=by omega
   have hne1:I*2≠J*2:=by omega
   have hne2:J*2≠I*2:=by omega
   have hne3:I*2+1≠J*2:=by omega
   have hne4:J*2≠I*2+1:=by omega
   have hne5:I*2≠J*2+1:=by omega
   have hne6:J*2+1≠I*2:=by omega
   have hne7:I≠J:=by omega
   have hne8:J≠I:=by omega
   clear hSx hSy hsw hkept hrow hRx hRy hsn hL hLl hX hY hI hJ hIl hJl;go_wp2_with fail;go_region_law(fail)
   all_goals
    go_wp2_with fail;go_roundg(n-(i+1));case measure=>omega
    case rel=>exact⟨i+1,by first|rfl|go_num,by omega,rfl,bc.below HS.out.1 (af _).drew,(HS.out.2.trans ((dR _ g (I*2) [.int .i64 Y.kind,.slice Ay Y.p.length cy]).trans (dR _ g (J*2) [.int .i64 X.kind,.slice Ax X.p.length cx]))).trans (Kept.ay (af _).drew)⟩
  ·have e:i=n:=by omega
   rw[e] at hrow;have HW:=xQ (xP hrow hkept);clear hrow hkept e;have hi2: ¬(i:Int)<n:=by omega
   go_wp2_with fail;refine bodyPost_end (v:=.tuple #[]) (by simp[results,Tryz.results326,go_sem]) rfl ?_;exact⟨rfl,HW.out.1,HW.out.2⟩
section
theorem gi{A B:List ag}{x:ag}{i:Nat}(h:A.length=i):(A++x::B).getD i default=x:=by
 subst h;simp
theorem mg{A B:List ag}{x y:ag}{i:Nat}(h:A.length=i):(A++x::B).set i y=A++y::B:=by
 subst h;simp
theorem qF{A B C:List ag}{x y:ag}{i j:Nat}(hi:A.length=i)(hj:(A++x::B).length=j):jl (A++x::B++y::C) i j=A++y::B++x::C:=by
 unfold jl;rw[gi hj,show A++x::B++y::C=A++x::(B++y::C) by simp,gi hi,mg hi];rw[show A++y::(B++y::C)=(A++y::B)++y::C by simp,mg (by rw[←hj];simp)]
theorem tm{A C:List ag}{x y:ag}{i j:Nat}(hi:A.length=i)(hj:j=i+1):jl (A++x::y::C) i j=A++y::x::C:=by
 have h:=qF (B:=[]) (C:=C) (x:=x) (y:=y) hi (j:=j) (by simp[hj,hi]);simpa using h
theorem vi{A C:List ag}{x y:ag}{i j:Nat}(hi:A.length=i)(hj:j=i+1):jl (A++x::y::C) j i=A++y::x::C:=by
 unfold jl;rw[gi hi,show A++x::y::C=(A++[x])++y::C by simp,gi (by simp[hj,hi]),mg (by simp[hj,hi])];rw[show(A++[x])++x::C=A++x::x::C by simp,mg hi]
theorem fN: ∀(n:Nat)(P X M Y S:List ag)(a b:Nat),X.length=n→Y.length=n→P.length=a→P.length+n+M.length=b→kF (P++X++M++Y++S) a b n=P++Y++M++X++S|0,P,X,M,Y,S,a,b,hX,hY,ha,hb=>by rw[List.length_eq_zero_iff.1 hX,List.length_eq_zero_iff.1 hY];rfl|n+1,P,X,M,Y,S,a,b,hX,hY,ha,hb=>by(have hx:X≠[]:=by intro e;rw[e] at hX;simp at hX);(have hy:Y≠[]:=by intro e;rw[e] at hY;simp at hY);obtain⟨X0,x,rfl⟩: ∃X0 x,X=X0++[x]:=⟨X.dropLast,X.getLast hx,(List.dropLast_concat_getLast hx).symm⟩;obtain⟨Y0,y,rfl⟩: ∃Y0 y,Y=Y0++[y]:=⟨Y.dropLast,Y.getLast hy,(List.dropLast_concat_getLast hy).symm⟩;(have hX0:X0.length=n:=by simpa using hX);(have hY0:Y0.length=n:=by simpa using hY);have ih:=fN n P X0 (x::M) Y0 (y::S) a b hX0 hY0 ha (by simp;omega);(have e1:P++(X0++[x])++M++(Y0++[y])++S=P++X0++(x::M)++Y0++(y::S):=by simp);rw[kF,e1,ih];have e2:=qF (A:=P++Y0) (B:=M++X0) (C:=S) (x:=x) (y:=y) (i:=a+n) (j:=b+n) (by simp;omega) (by simp;omega);rw[show P++Y0++x::M++X0++y::S=P++Y0++x::(M++X0)++y::S by simp,e2];simp
def fU(Z l:List ag)(m i j:Nat):Prop:= ∃P X Y S,l=P++X++Y++S∧Z=P++Y++X++S∧X.length=i∧Y.length=j∧P.length+i=m
theorem fU.gt{Z l:List ag}{m i j:Nat}(h:fU Z l m i j)(hij:j<i):fU Z (kF l (m-i) m j) m (i-j) j:=by
 obtain⟨P,X,Y,S,rfl,rfl,hX,hY,hP⟩:=h;have e:=List.take_append_drop j X;obtain⟨X1,h1⟩: ∃X1,X1=X.take j:=⟨_,rfl⟩;obtain⟨X2,h2⟩: ∃X2,X2=X.drop j:=⟨_,rfl⟩;rw[←h1,←h2] at e;have l1:X1.length=j:=by rw[h1,List.length_take];omega
 have l2:X2.length=i-j:=by rw[h2,List.length_drop];omega
 subst e;have h:=fN j P X1 X2 Y S (m-i) m l1 hY (by omega) (by omega);rw[show P++(X1++X2)++Y++S=P++X1++X2++Y++S by simp,h];exact⟨P++Y,X2,X1,S,rfl,by simp,l2,l1,by simp;omega⟩
theorem fU.lt{Z l:List ag}{m i j:Nat}(h:fU Z l m i j)(hij:i<j):fU Z (kF l (m-i) (m+j-i) i) m i (j-i):=by
 obtain⟨P,X,Y,S,rfl,rfl,hX,hY,hP⟩:=h;have e:=List.take_append_drop (j-i) Y;obtain⟨Y1,h1⟩: ∃Y1,Y1=Y.take (j-i):=⟨_,rfl⟩;obtain⟨Y2,h2⟩: ∃Y2,Y2=Y.drop (j-i):=⟨_,rfl⟩;rw[←h1,←h2] at e;have l1:Y1.length=j-i:=by rw[h1,List.length_take];omega
 have l2:Y2.length=i:=by rw[h2,List.length_drop];omega
 subst e;have h:=fN i P X Y1 Y2 S (m-i) (m+j-i) hX l2 (by omega) (by omega);rw[show P++X++(Y1++Y2)++S=P++X++Y1++Y2++S by simp,h];exact⟨P,Y2,Y1,X++S,by simp,by simp,l2,l1,by omega⟩
theorem fU.eq{Z l:List ag}{m i:Nat}(h:fU Z l m i i):kF l (m-i) m i=Z:=by
 obtain⟨P,X,Y,S,rfl,rfl,hX,hY,hP⟩:=h;have h:=fN i P X [] Y S (m-i) m hX hY (by omega) (by simp;omega);simpa using h
theorem fU.len{Z l:List ag}{m i j:Nat}(h:fU Z l m i j):m+j≤l.length∧i≤m∧Z.length=l.length:=by
 obtain⟨P,X,Y,S,rfl,rfl,hX,hY,hP⟩:=h;simp;omega
section
variable {α : Type} {lt : α → α → Bool}
theorem bU.oW(O:jm lt){x:α}{Y:List α}(h:bU lt Y)(h1: ∀y,Y.head? =some y→lt y x=false):bU lt (x::Y):=by
 cases Y with|nil=>exact List.pairwise_singleton _ _|cons z Y=>have h2:=h1 z rfl;exact List.pairwise_cons.2 ⟨fun b hb=>O.le_trans x z b h2 (bU.ka O h b hb),h⟩
theorem tR(O:jm lt){x:α}{Y1 Y2:List α}(hY:bU lt (Y1++Y2))(h1: ∀y,Y1.getLast? =some y→lt y x=true)(h2: ∀y,Y2.head? =some y→lt y x=false):bU lt (Y1++x::Y2)∧(Y1++x::Y2).Perm ([x]++(Y1++Y2)):=by
 have hY':=(bU.append O).1 hY;have s2:=bU.oW O hY'.2.1 h2;refine⟨(bU.append O).2 ⟨hY'.1,s2,bU.meet O hY'.1 s2 fun y z hy hz=> ?_⟩,?_⟩;·simp at hz;subst hz;exact O.pH _ _ (h1 y hy)
 ·exact List.perm_middle
theorem rU(O:jm lt){y:α}{X1 X2:List α}(hX:bU lt (X1++X2))(h1: ∀x,X1.getLast? =some x→lt y x=false)(h2: ∀x,X2.head? =some x→lt y x=true):bU lt (X1++y::X2)∧(X1++y::X2).Perm (X1++X2++[y]):=by
 have hX':=(bU.append O).1 hX;have s2:bU lt (y::X2):=bU.oW O hX'.2.1 fun x hx=>O.pH _ _ (h2 x hx);refine⟨(bU.append O).2 ⟨hX'.1,s2,bU.meet O hX'.1 s2 fun x z hx hz=> ?_⟩,?_⟩;·simp at hz;subst hz;exact h1 x hx
 ·rw[List.append_assoc];refine List.Perm.append_left X1 ?_;exact(List.perm_append_comm (l₁:=[y]) (l₂:=X2))
end
end
theorem rS(Z l:List ag)(a m b:Nat)(ham:a<m)(hmb:m<b)(hr:fU Z l m (m-a) (b-m))(hl:l.length≤1048576)(f:Value)(base g c:Nat)(w:World)(h:bc base w g c l):Calls Tryz.prog 287 #[.slice (some ⟨g,0,none⟩) l.length c,.int .i64 (a:Int),.int .i64 (m:Int),.int .i64 (b:Int),f] w (fun e w'=>e=.returned (.tuple #[])∧bc base w' g c Z∧Kept [g] w w'):=by
 have hZ:=hr.len;have HR:=xQ (xP h hr);clear h hr;have hw1:IntKind.i64.wrap ((m:Int)-(a:Int))=((m-a:Nat):Int):=by rw[IntKind.wrap_i64];omega
 have hw2:IntKind.i64.wrap ((b:Int)-(m:Int))=((b-m:Nat):Int):=by rw[IntKind.wrap_i64];omega
 obtain⟨N,hN⟩: ∃N,N=l.length:=⟨_,rfl⟩;rw[←hN] at hZ ⊢;rw[←hN] at hl;have HN:=xQ hN;clear hN;obtain⟨hb1,-,hZl⟩:=hZ;have HZ:=xQ hZl;clear hZl;have hbl:b≤N:=by omega
 clear hb1;go_enter Tryz.func287,Tryz.ntmps287;go_wp2_with fail;go_loopg[10,11] (b-a) (fun gk s10 s11 wr=> ∃(i j:Nat) (L:List ag),s10=.int .i64 (i:Int)∧s11=.int .i64 (j:Int)∧0<i∧0<j∧gk=i+j∧Hid (fU Z L m i j∧L.length=N∧bc base wr g c L∧Kept [g] w wr));case atStart=>exact⟨m-a,b-m,l,by first|rfl|go_num,by first|rfl|go_num,by omega,by omega,by omega,xQ ⟨HR.out.2,HN.out.symm,HR.out.1,Kept.refl _ _⟩⟩
 case round=>
  obtain⟨i,j,L,rfl,rfl,hi,hj,rfl,HQ⟩:=hrel;have hq:=HQ.out.1.len;rw[HQ.out.2.1] at hq;obtain⟨q1,q2,q3⟩:=hq;clear q3;rcases Nat.lt_trichotomy i j with hij|hij|hij
  ·have h1: ¬((i:Int)=(j:Int)):=by omega
   have h2: ¬((j:Int)<(i:Int)):=by omega
   have hv1:IntKind.i64.wrap ((m:Int)-(i:Int))=((m-i:Nat):Int):=by rw[IntKind.wrap_i64];omega
   have hv2:IntKind.i64.wrap ((m:Int)+(j:Int))=(m:Int)+(j:Int):=by rw[IntKind.wrap_i64];omega
   have hv3:IntKind.i64.wrap ((m:Int)+(j:Int)-(i:Int))=(m:Int)+(j:Int)-(i:Int):=by rw[IntKind.wrap_i64];omega
   have hv4:IntKind.i64.wrap ((j:Int)-(i:Int))=((j-i:Nat):Int):=by rw[IntKind.wrap_i64];omega
   have hc:=fun w0 h=>fO L (m-i) (m+j-i) i (by omega) (by rw[HQ.out.2.1];omega) (by rw[HQ.out.2.1];omega) f base g c w0 h;rw[HQ.out.2.1,show((m+j-i:Nat):Int)=(m:Int)+(j:Int)-(i:Int) by omega] at hc;go_wp2_with fail;go_at_call 326;refine(hc _ (by first|exact HQ.out.2.2.1|exact HQ.out.2.2.1.below (af _).drew)).mono ?_;rintro e w3 ⟨rfl,hr3,hk3⟩;have HK:=xQ (xP hr3 hk3);clear hr3 hk3;go_wp2_with fail;go_roundg(j);case measure=>omega
   case rel=>exact⟨i,j-i,_,rfl,by first|rfl|go_num,hi,by omega,by omega,xQ ⟨HQ.out.1.lt hij,by rw[jI];exact HQ.out.2.1,HK.out.1,by first|exact HQ.out.2.2.2.trans HK.out.2|exact(HQ.out.2.2.2.trans (Kept.ay (af _).drew)).trans HK.out.2⟩⟩
  ·subst hij;have hv1:IntKind.i64.wrap ((m:Int)-(i:Int))=((m-i:Nat):Int):=by rw[IntKind.wrap_i64];omega
   have hc:=fun w0 h=>fO L (m-i) m i (by omega) (by rw[HQ.out.2.1];omega) (by rw[HQ.out.2.1];omega) f base g c w0 h;rw[HQ.out.2.1,HQ.out.1.eq] at hc;go_wp2_with fail;go_at_call 326;refine(hc _ (by first|exact HQ.out.2.2.1|exact HQ.out.2.2.1.below (af _).drew)).mono ?_;rintro e w3 ⟨rfl,hr3,hk3⟩;have HK:=xQ (xP hr3 hk3);clear hr3 hk3;go_wp2_with fail;refine bodyPost_end (v:=.tuple #[]) (by simp[results,Tryz.results287,go_sem]) rfl ?_;exact⟨rfl,HK.out.1,by first|exact HQ.out.2.2.2.trans HK.out.2|exact(HQ.out.2.2.2.trans (Kept.ay (af _).drew)).trans HK.out.2⟩
  ·have h1: ¬((i:Int)=(j:Int)):=by omega
   have h2:((j:Int)<(i:Int)):=by omega
   have hv1:IntKind.i64.wrap ((m:Int)-(i:Int))=((m-i:Nat):Int):=by rw[IntKind.wrap_i64];omega
   have hv4:IntKind.i64.wrap ((i:Int)-(j:Int))=((i-j:Nat):Int):=by rw[IntKind.wrap_i64];omega
   have hc:=fun w0 h=>fO L (m-i) m j (by omega) (by rw[HQ.out.2.1];omega) (by rw[HQ.out.2.1];omega) f base g c w0 h;rw[HQ.out.2.1] at hc;go_wp2_with fail;go_at_call 326;refine(hc _ (by first|exact HQ.out.2.2.1|exact HQ.out.2.2.1.below (af _).drew)).mono ?_;rintro e w3 ⟨rfl,hr3,hk3⟩;have HK:=xQ (xP hr3 hk3);clear hr3 hk3;go_wp2_with fail;go_roundg(i);case measure=>omega
   case rel=>exact⟨i-j,j,_,by first|rfl|go_num,rfl,by omega,hj,by omega,xQ ⟨HQ.out.1.gt hij,by rw[jI];exact HQ.out.2.1,HK.out.1,by first|exact HQ.out.2.2.2.trans HK.out.2|exact(HQ.out.2.2.2.trans (Kept.ay (af _).drew)).trans HK.out.2⟩⟩
theorem iE{A Y S:List ag}{m i:Nat}(hA:A.length=m)(hmi:m≤i)(hi:i≤m+Y.length): ∀y,(Y.take (i-m)).getLast? =some y→m<i∧(A++Y++S).getD (i-1) default=y:=by
 intro y hy;rw[List.getLast?_take] at hy;split at hy;·cases hy
 ·rename_i hne;have hlt:i-m-1<Y.length:=by omega
  rw[List.getElem?_eq_getElem hlt] at hy;refine⟨by omega,?_⟩;rw[List.getD_eq_getElem?_getD,List.append_assoc,List.getElem?_append_right (by omega),List.getElem?_append_left (by omega),show i-1-A.length=i-m-1 by omega,List.getElem?_eq_getElem hlt];simpa using hy
theorem iJ{A Y S:List ag}{m i:Nat}(hA:A.length=m)(hmi:m≤i): ∀y,(Y.drop (i-m)).head? =some y→i<m+Y.length∧(A++Y++S).getD i default=y:=by
 intro y hy;rw[List.head?_drop] at hy;by_cases hlt:i-m<Y.length;·refine⟨by omega,?_⟩;rw[List.getD_eq_getElem?_getD,List.append_assoc,List.getElem?_append_right (by omega),List.getElem?_append_left (by omega),show i-A.length=i-m by omega,hy];rfl
 ·rw[List.getElem?_eq_none (by omega)] at hy;cases hy
theorem xK{P Y S:List ag}{x:ag}{m b i:Nat}(hP:P.length+1=m)(hY:Y.length=b-m)(h1:m≤i)(h2:i≤b)(sY:bU ak Y)(c1:i=m∨ak ((P++[x]++Y++S).getD (i-1) default) x=true)(c2:i=b∨ak ((P++[x]++Y++S).getD i default) x=false):bU ak (Y.take (i-m)++x::Y.drop (i-m))∧(Y.take (i-m)++x::Y.drop (i-m)).Perm ([x]++Y):=by
 have e:=List.take_append_drop (i-m) Y;have hA:(P++[x]).length=m:=by simpa using hP
 have h:=tR cO.oZ (x:=x) (Y1:=Y.take (i-m)) (Y2:=Y.drop (i-m)) (by rw[e];exact sY) (fun y hy=> ?_) (fun y hy=> ?_);·rw[e] at h;exact h
 ·obtain⟨h3,h4⟩:=iE (S:=S) hA h1 (by omega) y hy;rw[h4] at c1;rcases c1 with c1|c1;·omega
  ·exact c1
 ·obtain⟨h3,h4⟩:=iJ (S:=S) hA h1 y hy;rw[h4] at c2;rcases c2 with c2|c2;·omega
  ·exact c2
theorem xv{P X S:List ag}{y:ag}{a m i:Nat}(hP:P.length=a)(hX:X.length=m-a)(h1:a≤i)(h2:i≤m)(sX:bU ak X)(c1:i=a∨ak y ((P++X++[y]++S).getD (i-1) default)=false)(c2:i=m∨ak y ((P++X++[y]++S).getD i default)=true):bU ak (X.take (i-a)++y::X.drop (i-a))∧(X.take (i-a)++y::X.drop (i-a)).Perm (X++[y]):=by
 have e:=List.take_append_drop (i-a) X;rw[List.append_assoc (P++X)] at c1 c2;have h:=rU cO.oZ (y:=y) (X1:=X.take (i-a)) (X2:=X.drop (i-a)) (by rw[e];exact sX) (fun x hx=> ?_) (fun x hx=> ?_);·rw[e] at h;exact h
 ·obtain⟨h3,h4⟩:=iE (S:=[y]++S) hP h1 (by omega) x hx;rw[h4] at c1;rcases c1 with c1|c1;·omega
  ·exact c1
 ·obtain⟨h3,h4⟩:=iJ (S:=[y]++S) hP h1 x hx;rw[h4] at c2;rcases c2 with c2|c2;·omega
  ·exact c2
theorem xr{P X Y S:List ag}{a m b s e:Nat}(hP:P.length=a)(hX:X.length=m-a)(hY:Y.length=b-m)(has:a≤s)(hsm:s≤m)(hme:m≤e)(heb:e≤b)(sX:bU ak X)(sY:bU ak Y)(c1:s=a∨e=b∨ak ((P++X++Y++S).getD e default) ((P++X++Y++S).getD (s-1) default)=false)(c2:s=m∨e=m∨ak ((P++X++Y++S).getD (e-1) default) ((P++X++Y++S).getD s default)=true){Z1 Z2:List ag}(p1:Z1.Perm (X.take (s-a)++Y.take (e-m)))(p2:Z2.Perm (X.drop (s-a)++Y.drop (e-m)))(s1:bU ak Z1)(s2:bU ak Z2):bU ak (Z1++Z2)∧(Z1++Z2).Perm (X++Y):=by
 have ham:a≤m:=by omega
 have eX:=List.take_append_drop (s-a) X;have eY:=List.take_append_drop (e-m) Y;have hA:(P++X).length=m:=by rw[List.length_append];omega
 have lX: ∀x,(X.take (s-a)).getLast? =some x→a<s∧(P++X++Y++S).getD (s-1) default=x:=fun x hx=>by have h:=iE (S:=Y++S) hP has (by omega) x hx;rwa[←List.append_assoc] at h
 have hX2: ∀x,(X.drop (s-a)).head? =some x→s<a+X.length∧(P++X++Y++S).getD s default=x:=fun x hx=>by have h:=iJ (S:=Y++S) hP has x hx;rwa[←List.append_assoc] at h
 have h:=tS cO.oZ (X1:=X.take (s-a)) (X2:=X.drop (s-a)) (Y1:=Y.take (e-m)) (Y2:=Y.drop (e-m)) (by rw[eX];exact sX) (by rw[eY];exact sY) (fun x y hx hy=> ?_) (fun x y hx hy=> ?_) p1 p2 s1 s2;·rw[eX,eY] at h;exact h
 ·obtain⟨h3,h4⟩:=lX x hx;obtain⟨h5,h6⟩:=iJ (S:=S) hA hme y hy;rw[h4,h6] at c1;rcases c1 with c1|c1|c1;·omega
  ·omega
  ·exact c1
 ·obtain⟨h3,h4⟩:=iE (S:=S) hA hme (by omega) x hx;obtain⟨h5,h6⟩:=hX2 y hy;rw[h4,h6] at c2;rcases c2 with c2|c2|c2;·omega
  ·omega
  ·exact cO.oZ.pH _ _ c2
theorem bc.wS{base:Nat}{w:World}{g c:Nat}{l:List ag}(h:bc base w g c l){i:Nat}(hi:i<l.length): ∃(x:ag) (A':Option Addr) (c':Nat),x=l.getD i default∧SA w x.p A' c'∧w.cell? ⟨g,i*2,none⟩=some (.int .i64 x.kind)∧w.cell? ⟨g,i*2+1,none⟩=some (.slice A' x.p.length c'):=by
 obtain⟨A',c',h1,h2,h3,h4⟩:=h.at hi;refine⟨l[i],A',c',?_,h2,h3,h4⟩;rw[List.getD_eq_getElem?_getD,List.getElem?_eq_getElem hi];rfl
theorem bc.swp{base:Nat}{w:World}{g c:Nat}{l:List ag}(h:bc base w g c l){i j:Nat}(hi:i<l.length)(hj:j<l.length): ∃(x y:ag) (Ax Ay:Option Addr) (cx cy:Nat),(w.cell? ⟨g,i*2,none⟩=some (.int .i64 x.kind)∧w.cell? ⟨g,i*2+1,none⟩=some (.slice Ax x.p.length cx))∧(w.cell? ⟨g,j*2,none⟩=some (.int .i64 y.kind)∧w.cell? ⟨g,j*2+1,none⟩=some (.slice Ay y.p.length cy))∧bc base (bg (bg w g (i*2) [.int .i64 y.kind,.slice Ay y.p.length cy]) g (j*2) [.int .i64 x.kind,.slice Ax x.p.length cx]) g c (jl l i j)∧Kept [g] w (bg (bg w g (i*2) [.int .i64 y.kind,.slice Ay y.p.length cy]) g (j*2) [.int .i64 x.kind,.slice Ax x.p.length cx])∧(w.frozen? ⟨g,i*2,none⟩=false∧w.frozen? ⟨g,i*2+1,none⟩=false)∧(w.frozen? ⟨g,j*2,none⟩=false∧w.frozen? ⟨g,j*2+1,none⟩=false):=by
 obtain⟨Ax,cx,hRx,hSx,x0,x1⟩:=h.at hi;obtain⟨Ay,cy,hRy,hSy,y0,y1⟩:=h.at hj;exact⟨l[i],l[j],Ax,Ay,cx,cy,⟨x0,x1⟩,⟨y0,y1⟩,h.wg hi hj hRx hRy,(dR w g (i*2) _).trans (dR _ g (j*2) _),h.facts hi,h.facts hj⟩
theorem xF{a m b k:Nat}(ham:a<m)(hmb:m<b)(hk1:2*k≤a+b)(hk2:a+b<2*k+2)(h1:m≠a+1)(h2:b≠m+1): ∃s0 r0:Nat,a≤s0∧s0≤r0∧r0≤m∧r0≤k∧m+k≤s0+b∧m≤m+k-r0∧(s0=a∨m+k-s0=b)∧(r0=m∨m+k-r0=m)∧((k<m∧(s0:Int)=(k:Int)+(m:Int)-(b:Int)∧r0=k)∨(m≤k∧s0=a∧r0=m)):=by
 rcases Nat.lt_or_ge k m with h|h;·exact⟨k+m-b,k,by omega,by omega,by omega,by omega,by omega,by omega,Or.inr (by omega),Or.inr (by omega),Or.inl ⟨h,by omega,rfl⟩⟩
 ·exact⟨a,m,by omega,by omega,by omega,by omega,by omega,by omega,Or.inl rfl,Or.inl rfl,Or.inr ⟨h,rfl,rfl⟩⟩
theorem wG{P X Y S:List ag}{a m b s e:Nat}(hP:P.length=a)(hX:X.length=m-a)(hY:Y.length=b-m)(ham:a≤m)(has:a≤s)(hsm:s≤m)(hme:m≤e)(heb:e≤b):fU (P++X.take (s-a)++Y.take (e-m)++(X.drop (s-a)++Y.drop (e-m)++S)) (P++X++Y++S) m (m-s) (e-m):=by
 have eX:=List.take_append_drop (s-a) X;have eY:=List.take_append_drop (e-m) Y;refine⟨P++X.take (s-a),X.drop (s-a),Y.take (e-m),Y.drop (e-m)++S,?_,by simp,by rw[List.length_drop];omega,by rw[List.length_take];omega,by rw[List.length_append,List.length_take];omega⟩;conv=>lhs;rw[←eX]
 simp only[List.append_assoc];rw[←List.append_assoc (List.take (e-m) Y) (List.drop (e-m) Y),eY]
theorem uH{P X Y S:List ag}{a m b s e:Nat}(hP:P.length=a)(hX:X.length=m-a)(hY:Y.length=b-m)(ham:a≤m)(has:a≤s)(hsm:s≤m)(hme:m≤e)(heb:e≤b)(h: ¬(s<m∧m<e)):P++X.take (s-a)++Y.take (e-m)++(X.drop (s-a)++Y.drop (e-m)++S)=P++X++Y++S:=by
 have eX:=List.take_append_drop (s-a) X;have eY:=List.take_append_drop (e-m) Y;by_cases h1:s=m;·rw[h1,←hX,List.take_length,List.drop_length];simp only[List.append_assoc,List.nil_append];rw[←List.append_assoc (List.take (e-m) Y),eY]
 ·have h2:e-m=0:=by omega
  rw[h2,List.take_zero,List.drop_zero];simp only[List.append_assoc,List.nil_append];rw[←List.append_assoc (List.take (s-a) X),eX]
theorem jZ{X:List ag}{k:Nat}(h:bU ak X):bU ak (X.take k):=List.Pairwise.sublist (List.take_sublist k X) h
theorem kn{X:List ag}{k:Nat}(h:bU ak X):bU ak (X.drop k):=List.Pairwise.sublist (List.drop_sublist k X) h
theorem pS{X Y:List ag}(hX:bU ak X)(hY:bU ak Y)(h: ¬(0<X.length∧0<Y.length)):bU ak (X++Y):=by
 by_cases h1:X.length=0;·rw[List.length_eq_zero_iff.1 h1];exact hY
 ·have h2:Y.length=0:=by omega
  rw[List.length_eq_zero_iff.1 h2,List.append_nil];exact hX
theorem og(l P Y S:List ag)(x:ag)(a m b:Nat)(he:l=P++[x]++Y++S)(hP:P.length=a)(hm:m=a+1)(hY:Y.length=b-m)(hmb:m<b)(sY:bU ak Y)(hl:l.length≤1048576)(base g c:Nat)(w:World)(h:bc base w g c l)(hcf: ∀(a:Array Value)(w:World),(callFunc 157 a).run Tryz.prog w=.ok (.enter 157 a) w):Calls Tryz.prog 254 #[.slice (some ⟨g,0,none⟩) l.length c,.int .i64 (a:Int),.int .i64 (m:Int),.int .i64 (b:Int),.func (.func 157) #[] #[]] w (fun e w'=>e=.returned (.tuple #[])∧ ∃Z,(bU ak Z∧Z.Perm ([x]++Y))∧bc base w' g c (P++Z++S)∧Kept [g] w w'):=by
 have hln:l.length=a+1+(b-m)+S.length:=by rw[he];simp;omega
 have hxa:l.getD a default=x:=by rw[he,show P++[x]++Y++S=P++x::(Y++S) by simp];exact gi hP
 obtain⟨N,hN⟩: ∃N,N=l.length:=⟨_,rfl⟩;rw[←hN] at hln hl ⊢;have hbN:b≤N:=by omega
 have HE:=xQ (xP he (xP hP (xP hY (xP sY (xP hN hxa)))));have HR:=xQ h;have hw1:IntKind.i64.wrap ((m:Int)-(a:Int))=1:=by rw[IntKind.wrap_i64];omega
 have ham:a<m:=by omega
 have HM:=xQ hm;clear he hP hY sY hN hxa h hln hm;go_enter Tryz.func254,Tryz.ntmps254;go_wp2_with fail;go_loopg[10,11] (b-m) (fun gk s10 s11 wr=> ∃i j:Nat,s10=.int .i64 (i:Int)∧s11=.int .i64 (j:Int)∧m≤i∧i≤j∧j≤b∧gk=j-i∧Hid ((i=m∨ak (l.getD (i-1) default) x=true)∧(j=b∨ak (l.getD j default) x=false)∧bc base wr g c l∧Kept [g] w wr));case atStart=>exact⟨m,b,rfl,rfl,by omega,by omega,by omega,rfl,xQ ⟨.inl rfl,.inl rfl,HR.out,Kept.refl _ _⟩⟩
 case round=>
  obtain⟨i,j,rfl,rfl,h1,h2,h3,rfl,HQ⟩:=hrel;by_cases hlt:i<j
  ·have hlt':(i:Int)<j:=by omega
   obtain⟨H,hH⟩: ∃H,H=(i+j)/2:=⟨_,rfl⟩;have hH1:i≤H:=by omega
   have hH2:H<j:=by omega
   have hHi:((i:Int)+(j:Int))/2=(H:Int):=by omega
   clear hH;go_wp2_with fail;clear hHi;have hk1:(0:Int)≤H:=by omega
   have hk2:(H:Int)<N:=by omega
   have hk3:(0:Int)≤a:=by omega
   have hk4:(a:Int)<N:=by omega
   obtain⟨X1,A1,c1,hX1,hS1,x0,x1⟩:=HQ.out.2.2.1.wS (i:=H) (by rw[←HE.out.2.2.2.2.1];omega);obtain⟨X2,A2,c2,hX2,hS2,y0,y1⟩:=HQ.out.2.2.1.wS (i:=a) (by rw[←HE.out.2.2.2.2.1];omega);obtain⟨r,hr⟩: ∃r,r=eO X1 X2:=⟨_,rfl⟩;have hlt2:=gz X1 X2;rw[←hr] at hlt2;have hgl:=HQ.out.2.2.1.lt;have HX:=xQ (xP hr (xP hlt2 (xP hX1 hX2)));clear hr hlt2 hX1 hX2;have HS:=xQ (xP hS1 (xP hS2 True.intro));clear hS1 hS2;go_region_held3(fun u=>u.cell? ⟨g,H*2,none⟩=some (.int .i64 X1.kind)∧u.cell? ⟨g,H*2+1,none⟩=some (.slice A1 X1.p.length c1)∧u.cell? ⟨g,a*2,none⟩=some (.int .i64 X2.kind)∧u.cell? ⟨g,a*2+1,none⟩=some (.slice A2 X2.p.length c2)) (go_keep) (first|(go_at_call 157;(refine(cA X1 X2 A1 A2 c1 c2 _ (by first|exact HS.out.1|exact HS.out.1.drew) (by first|exact HS.out.2.1|exact HS.out.2.1.drew)).mono ?_;rintro e w3 ⟨rfl,hb3⟩;rw[←HX.out.1];have HB3:=xQ (xP (show Below wr.heap.size wr w3 from(by first|exact hb3|exact al (af wr).drew hb3)) True.intro);have zx0:=(HB3.out.1.cell (p:=⟨g,_,none⟩) hgl).trans x0;have zx1:=(HB3.out.1.cell (p:=⟨g,_,none⟩) hgl).trans x1;have zy0:=(HB3.out.1.cell (p:=⟨g,_,none⟩) hgl).trans y0;have zy1:=(HB3.out.1.cell (p:=⟨g,_,none⟩) hgl).trans y1;clear hb3)))
   all_goals
    by_cases hneg:r<0
    ·go_wp2_with fail;go_roundg(j-(H+1));case measure=>omega
     case rel=>refine⟨H+1,j,by first|rfl|go_num,rfl,by omega,by omega,by omega,rfl,xQ ⟨.inr ?_,HQ.out.2.1,HQ.out.2.2.1.below HB3.out.1,HQ.out.2.2.2.trans (Kept.ay HB3.out.1)⟩⟩;rw[show H+1-1=H by omega,←HX.out.2.2.1,←HE.out.2.2.2.2.2,←HX.out.2.2.2,←HX.out.2.1];exact decide_eq_true hneg
    ·go_wp2_with fail;go_roundg(H-i);case measure=>omega
     case rel=>refine⟨i,H,rfl,by first|rfl|go_num,by omega,by omega,by omega,rfl,xQ ⟨HQ.out.1,.inr ?_,HQ.out.2.2.1.below HB3.out.1,HQ.out.2.2.2.trans (Kept.ay HB3.out.1)⟩⟩;rw[←HX.out.2.2.1,←HE.out.2.2.2.2.2,←HX.out.2.2.2,←HX.out.2.1];exact decide_eq_false (by omega)
  ·have e:i=j:=by omega
   subst e;have hZ:=xK (P:=P) (Y:=Y) (S:=S) (x:=x) (m:=m) (b:=b) (i:=i) (by rw[HE.out.2.1];exact HM.out.symm) HE.out.2.2.1 h1 h3 HE.out.2.2.2.1 (by rw[←HE.out.1];exact HQ.out.1) (by rw[←HE.out.1];exact HQ.out.2.1);obtain⟨I,hI⟩: ∃I,I=i-m:=⟨_,rfl⟩;rw[←hI] at hZ;have hIY:I≤b-m:=by omega
   have him:i=m+I:=by omega
   have HZ:=xQ hZ;clear hZ hI;have hrow0:bc base wr g c (dT P Y S x 0):=by(have e:dT P Y S x 0=l:=by unfold dT;rw[HE.out.1];simp);rw[e];exact HQ.out.2.2.1
   have HK:=xQ (xP hrow0 HQ.out.2.2.2);clear hrow0 HQ;have hij: ¬((i:Int)<(i:Int)):=by omega
   have hiw:IntKind.i64.wrap ((i:Int)-1)=(a:Int)+(I:Int):=by rw[IntKind.wrap_i64];have:=HM.out;omega
   subst him;clear h2 hlt h1;go_wp2_with fail;go_loopg[13] I (fun gk s13 wx=> ∃k:Nat,s13=.int .i64 ((a+k:Nat):Int)∧k≤I∧gk=I-k∧Hid (bc base wx g c (dT P Y S x k)∧Kept [g] w wx));case atStart=>exact⟨0,by simp,by omega,by omega,xQ HK.out⟩
   case round=>
    obtain⟨k,rfl,hk,rfl,HK2⟩:=hrel;by_cases hlk:k<I
    ·obtain⟨K,hK⟩: ∃K,K=a+k:=⟨_,rfl⟩;have hkY:k<Y.length:=by rw[HE.out.2.2.1];omega
     have hlen:(dT P Y S x k).length=N:=by rw[HE.out.2.2.2.2.1,HE.out.1];unfold dT;simp;omega
     have hsw:jl (dT P Y S x k) K (K+1)=dT P Y S x (k+1):=by rw[←kU P Y S x hkY,iP P Y S x hkY];exact tm (by rw[List.length_append,List.length_take,HE.out.2.1];omega) rfl
     obtain⟨X1,X2,A1,A2,c1,c2,⟨x0,x1⟩,⟨y0,y1⟩,hrow2,hk2,⟨fx0,fx1⟩,⟨fy0,fy1⟩⟩:=HK2.out.1.swp (i:=K) (j:=K+1) (by omega) (by omega);rw[hsw] at hrow2;have HW:=xQ (xP hrow2 (HK2.out.2.trans hk2));clear hrow2 hk2 hsw hlen hkY;have hN: ∀l':List ag,l'.length=N→True:=fun _ _=>trivial;rw[←hK];have hq1:(K:Int)<(m:Int)+(I:Int)-1:=by have:=HM.out;omega
     have hq2:(0:Int)≤K:=by omega
     have hq3:(K:Int)<N:=by omega
     have hq4:(K:Int)+1<N:=by omega
     have hq5:(0:Int)≤(K:Int)+1:=by omega
     have hq6:IntKind.i64.wrap ((K:Int)+1)=(K:Int)+1:=by rw[IntKind.wrap_i64];omega
     have hq7:((K:Int)+1).toNat=K+1:=by omega
     have hne1:K*2≠(K+1)*2:=by omega
     have hne2:(K+1)*2≠K*2:=by omega
     have hne3:K*2+1≠(K+1)*2:=by omega
     have hne4:(K+1)*2≠K*2+1:=by omega
     have hne5:K*2≠(K+1)*2+1:=by omega
     have hne6:(K+1)*2+1≠K*2:=by omega
     have HKK:=xQ hK;clear hK;go_wp2_with fail;go_region_law(fail)
     all_goals
      go_wp2_with fail;go_roundg(I-(k+1));case measure=>omega
      case rel=>exact⟨k+1,by first|(rw[show a+(k+1)=K+1 by have:=HKK.out;omega];first|rfl|go_num),by omega,rfl,xQ ⟨bc.below HW.out.1 (af _).drew,HW.out.2.trans (Kept.ay (af _).drew)⟩⟩
    ·have e:k=I:=by omega
     subst e;have hq1: ¬((a:Int)+(k:Int)<(m:Int)+(k:Int)-1):=by have:=HM.out;omega
     go_wp2_with fail;refine bodyPost_ret (v:=.tuple #[]) (by simp[results,Tryz.results254,go_sem]) rfl ?_;exact⟨rfl,Y.take k++x::Y.drop k,HZ.out,by have h:=HK2.out.1;unfold dT at h;rwa[List.append_assoc] at h,HK2.out.2⟩
theorem nQ(l P X S:List ag)(y:ag)(a m b:Nat)(he:l=P++X++[y]++S)(hP:P.length=a)(hm:b=m+1)(hX:X.length=m-a)(ham:a<m)(hm1:m≠a+1)(sX:bU ak X)(hl:l.length≤1048576)(base g c:Nat)(w:World)(h:bc base w g c l)(hcf: ∀(a:Array Value)(w:World),(callFunc 157 a).run Tryz.prog w=.ok (.enter 157 a) w):Calls Tryz.prog 254 #[.slice (some ⟨g,0,none⟩) l.length c,.int .i64 (a:Int),.int .i64 (m:Int),.int .i64 (b:Int),.func (.func 157) #[] #[]] w (fun e w'=>e=.returned (.tuple #[])∧ ∃Z,(bU ak Z∧Z.Perm (X++[y]))∧bc base w' g c (P++Z++S)∧Kept [g] w w'):=by
 have hln:l.length=a+(m-a)+1+S.length:=by rw[he];simp;omega
 have hxa:l.getD m default=y:=by rw[he,show P++X++[y]++S=(P++X)++y::S by simp];exact gi (by rw[List.length_append];omega)
 obtain⟨N,hN⟩: ∃N,N=l.length:=⟨_,rfl⟩;rw[←hN] at hln hl ⊢;have hbN:m<N:=by omega
 have HE:=xQ (xP he (xP hP (xP hX (xP sX (xP hN hxa)))));have HR:=xQ h;have hw0:IntKind.i64.wrap ((m:Int)-(a:Int))=(m:Int)-(a:Int):=by rw[IntKind.wrap_i64];omega
 have hw1:IntKind.i64.wrap ((b:Int)-(m:Int))=1:=by rw[IntKind.wrap_i64];omega
 have hw2:((m:Int)-(a:Int)==1)=false:=by simp;omega
 have HM:=xQ hm;clear he hP hX sX hN hxa h hln hm;go_enter Tryz.func254,Tryz.ntmps254;go_wp2_with fail;go_loopg[14,15] (m-a) (fun gk s14 s15 wr=> ∃i j:Nat,s14=.int .i64 (i:Int)∧s15=.int .i64 (j:Int)∧a≤i∧i≤j∧j≤m∧gk=j-i∧Hid ((i=a∨ak y (l.getD (i-1) default)=false)∧(j=m∨ak y (l.getD j default)=true)∧bc base wr g c l∧Kept [g] w wr));case atStart=>exact⟨a,m,rfl,rfl,by omega,by omega,by omega,rfl,xQ ⟨.inl rfl,.inl rfl,HR.out,Kept.refl _ _⟩⟩
 case round=>
  obtain⟨i,j,rfl,rfl,h1,h2,h3,rfl,HQ⟩:=hrel;by_cases hlt:i<j
  ·have hlt':(i:Int)<j:=by omega
   obtain⟨H,hH⟩: ∃H,H=(i+j)/2:=⟨_,rfl⟩;have hH1:i≤H:=by omega
   have hH2:H<j:=by omega
   have hHi:((i:Int)+(j:Int))/2=(H:Int):=by omega
   clear hH;go_wp2_with fail;clear hHi;have hk1:(0:Int)≤H:=by omega
   have hk2:(H:Int)<N:=by omega
   have hk3:(0:Int)≤m:=by omega
   have hk4:(m:Int)<N:=by omega
   obtain⟨X1,A1,c1,hX1,hS1,x0,x1⟩:=HQ.out.2.2.1.wS (i:=m) (by rw[←HE.out.2.2.2.2.1];omega);obtain⟨X2,A2,c2,hX2,hS2,y0,y1⟩:=HQ.out.2.2.1.wS (i:=H) (by rw[←HE.out.2.2.2.2.1];omega);obtain⟨r,hr⟩: ∃r,r=eO X1 X2:=⟨_,rfl⟩;have hlt2:=gz X1 X2;rw[←hr] at hlt2;have hgl:=HQ.out.2.2.1.lt;have HX:=xQ (xP hr (xP hlt2 (xP hX1 hX2)));clear hr hlt2 hX1 hX2;have HS:=xQ (xP hS1 (xP hS2 True.intro));clear hS1 hS2;go_region_held3(fun u=>u.cell? ⟨g,m*2,none⟩=some (.int .i64 X1.kind)∧u.cell? ⟨g,m*2+1,none⟩=some (.slice A1 X1.p.length c1)∧u.cell? ⟨g,H*2,none⟩=some (.int .i64 X2.kind)∧u.cell? ⟨g,H*2+1,none⟩=some (.slice A2 X2.p.length c2)) (go_keep) (first|(go_at_call 157;(refine(cA X1 X2 A1 A2 c1 c2 _ (by first|exact HS.out.1|exact HS.out.1.drew) (by first|exact HS.out.2.1|exact HS.out.2.1.drew)).mono ?_;rintro e w3 ⟨rfl,hb3⟩;rw[←HX.out.1];have HB3:=xQ (xP (show Below wr.heap.size wr w3 from(by first|exact hb3|exact al (af wr).drew hb3)) True.intro);have zx0:=(HB3.out.1.cell (p:=⟨g,_,none⟩) hgl).trans x0;have zx1:=(HB3.out.1.cell (p:=⟨g,_,none⟩) hgl).trans x1;have zy0:=(HB3.out.1.cell (p:=⟨g,_,none⟩) hgl).trans y0;have zy1:=(HB3.out.1.cell (p:=⟨g,_,none⟩) hgl).trans y1;clear hb3)))
   all_goals
    obtain⟨d,hd⟩: ∃d,d=decide (r<0):=⟨_,rfl⟩;rw[←hd];have HD:=xQ hd;clear hd;cases d;rotate_left
    ·have hnb:=HD.out.symm;go_wp2_with fail;go_roundg(H-i);case measure=>omega
     case rel=>refine⟨i,H,rfl,by first|rfl|go_num,by omega,by omega,by omega,rfl,xQ ⟨HQ.out.1,.inr ?_,HQ.out.2.2.1.below HB3.out.1,HQ.out.2.2.2.trans (Kept.ay HB3.out.1)⟩⟩;rw[←HX.out.2.2.2,←HE.out.2.2.2.2.2,←HX.out.2.2.1,←HX.out.2.1];exact hnb
    ·have hnb:=HD.out.symm;go_wp2_with fail;go_roundg(j-(H+1));case measure=>omega
     case rel=>refine⟨H+1,j,by first|rfl|go_num,rfl,by omega,by omega,by omega,rfl,xQ ⟨.inr ?_,HQ.out.2.1,HQ.out.2.2.1.below HB3.out.1,HQ.out.2.2.2.trans (Kept.ay HB3.out.1)⟩⟩;rw[show H+1-1=H by omega,←HX.out.2.2.2,←HE.out.2.2.2.2.2,←HX.out.2.2.1,←HX.out.2.1];exact hnb
  ·have e:i=j:=by omega
   subst e;have hZ:=xv (P:=P) (X:=X) (S:=S) (y:=y) (a:=a) (m:=m) (i:=i) HE.out.2.1 HE.out.2.2.1 h1 h3 HE.out.2.2.2.1 (by rw[←HE.out.1];exact HQ.out.1) (by rw[←HE.out.1];exact HQ.out.2.1);obtain⟨I,hI⟩: ∃I,I=i-a:=⟨_,rfl⟩;rw[←hI] at hZ;have hIY:I≤m-a:=by omega
   have him:i=a+I:=by omega
   have HZ:=xQ hZ;clear hZ hI;have hrow0:bc base wr g c (dT P X S y (m-a)):=by(have e:dT P X S y (m-a)=l:=by unfold dT;rw[HE.out.1,←HE.out.2.2.1,List.take_length,List.drop_length];simp);rw[e];exact HQ.out.2.2.1
   have HK:=xQ (xP hrow0 HQ.out.2.2.2);clear hrow0 HQ;have hij: ¬((i:Int)<(i:Int)):=by omega
   subst him;clear h2 hlt h1;go_wp2_with fail;go_loopg[17] (m-a-I) (fun gk s17 wx=> ∃k:Nat,s17=.int .i64 ((a+k:Nat):Int)∧I≤k∧k≤m-a∧gk=k-I∧Hid (bc base wx g c (dT P X S y k)∧Kept [g] w wx));case atStart=>exact⟨m-a,by congr 1;omega,by omega,by omega,by omega,xQ HK.out⟩
   case round=>
    obtain⟨k,rfl,hk,hkm,rfl,HK2⟩:=hrel;by_cases hlk:I<k
    ·obtain⟨t,rfl⟩: ∃t,k=t+1:=⟨k-1,by omega⟩;obtain⟨K,hK⟩: ∃K,K=a+t:=⟨_,rfl⟩;have hkY:t<X.length:=by rw[HE.out.2.2.1];omega
     have hlen:(dT P X S y (t+1)).length=N:=by rw[HE.out.2.2.2.2.1,HE.out.1];unfold dT;simp;omega
     have hsw:jl (dT P X S y (t+1)) (K+1) K=dT P X S y t:=by rw[←kU P X S y hkY,iP P X S y hkY];exact vi (by rw[List.length_append,List.length_take,HE.out.2.1];omega) rfl
     obtain⟨X1,X2,A1,A2,c1,c2,⟨x0,x1⟩,⟨y0,y1⟩,hrow2,hk2,⟨fx0,fx1⟩,⟨fy0,fy1⟩⟩:=HK2.out.1.swp (i:=K+1) (j:=K) (by omega) (by omega);rw[hsw] at hrow2;have HW:=xQ (xP hrow2 (HK2.out.2.trans hk2));clear hrow2 hk2 hsw hlen hkY;have hq1:(a:Int)+(I:Int)<(K:Int)+1:=by omega
     rw[show a+(t+1)=K+1 by omega];have hq2:(0:Int)≤K:=by omega
     have hq3:(K:Int)<N:=by omega
     have hq4:(K:Int)+1<N:=by omega
     have hq5:(0:Int)≤(K:Int)+1:=by omega
     have hq6:IntKind.i64.wrap ((K:Int)+1-1)=(K:Int):=by rw[IntKind.wrap_i64];omega
     have hq8:IntKind.i64.wrap (K:Int)=(K:Int):=by rw[IntKind.wrap_i64];omega
     have hq7:((K:Int)+1).toNat=K+1:=by omega
     have hne1:K*2≠(K+1)*2:=by omega
     have hne2:(K+1)*2≠K*2:=by omega
     have hne3:K*2+1≠(K+1)*2:=by omega
     have hne4:(K+1)*2≠K*2+1:=by omega
     have hne5:K*2≠(K+1)*2+1:=by omega
     have hne6:(K+1)*2+1≠K*2:=by omega
     have HKK:=xQ hK;clear hK;go_wp2_with fail;go_region_law(fail)
     all_goals
      go_wp2_with fail;go_roundg(t-I);case measure=>omega
      case rel=>exact⟨t,by first|(rw[←HKK.out];done)|(rw[←HKK.out];first|rfl|go_num),by omega,by omega,rfl,xQ ⟨bc.below HW.out.1 (af _).drew,HW.out.2.trans (Kept.ay (af _).drew)⟩⟩
    ·have e:k=I:=by omega
     subst e;have hq1: ¬((a:Int)+(k:Int)<(a:Int)+(k:Int)):=by omega
     go_wp2_with fail;refine bodyPost_ret (v:=.tuple #[]) (by simp[results,Tryz.results254,go_sem]) rfl ?_;exact⟨rfl,X.take k++y::X.drop k,HZ.out,by have h:=HK2.out.1;unfold dT at h;rwa[List.append_assoc] at h,HK2.out.2⟩
end Go.Proofs.YtodpdjehjllhdaaGreatDoor
