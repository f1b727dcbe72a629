/- Part of a proof: contracts and plain laws. -/
import Derived.Test.YtodpdjehjllhdaaGreatDoorW17
set_option linter.unusedVariables false
set_option linter.unusedSimpArgs false
set_option maxRecDepth 100000
set_option maxHeartbeats 20000000
namespace Go.Proofs.YtodpdjehjllhdaaGreatDoor
open Go.RowKit
section
theorem pw(x y:Int):Lib.compareInt x y<0↔x<y:=by
 unfold Lib.compareInt;split;·rename_i h;simp[h]
 ·split;·rename_i h1 h2;simp;omega
  ·rename_i h1 h2;simp;omega
theorem gX(a b:ag):decide (fq a b<0)=ao a b:=by
 unfold fq zP pU ao;by_cases e:a.p=b.p;·rw[if_pos e,e,eO.irr];simp only[Bool.false_eq_true,if_false,if_true];rw[Bool.eq_iff_iff,decide_eq_true_iff,decide_eq_true_iff,pw]
 ·rw[if_neg e];rcases eO.tot _ _ e with h|h;·rw[h];simp
  ·rw[eO.rH _ _ h,h];simp
theorem vQ{α:Type}(P R:List α)(x y:α):((P++y::x::R).set (P.length+1) y).set P.length x=P++x::y::R:=by
 rw[List.set_append_right _ _ (by omega),List.set_append_right _ _ (by omega)];simp
theorem kJ{α:Type}(P R:List α)(x y:α)(h:P.length<(P++y::x::R).length):(P++y::x::R)[P.length]=y:=by
 simp
theorem ld{α:Type}(P R:List α)(x y:α)(h:P.length+1<(P++y::x::R).length):(P++y::x::R)[P.length+1]=x:=by
 rw[List.getElem_append_right (by omega)];simp
section
variable {α : Type} [aD α]
theorem az.stored{w:World}{base:Nat}{t:TypeId}{g n c:Nat}{l:List α}{S:Nat→Prop}(h:az w base t (.slice (some ⟨g,0,none⟩) n c) l S){i:Nat}(hi:i<l.length){a:α}{cs:List Value}(hr:RS w S a cs)(hg: ∀b,S b→b≠g):az (bl w g (i*aD.wd α) cs) base t (.slice (some ⟨g,0,none⟩) n c) (l.set i a) S:=by
 obtain⟨F,h1,h2⟩:=h;obtain⟨F',h3,h4⟩:=hr;obtain⟨F1,F2,F3,hF,h5⟩:=h1.stored hi h3 (fun hm=>hg g (h4 g hm) rfl);subst hF;refine⟨_,h5,fun b hb=> ?_⟩;simp only[List.mem_append] at hb;rcases hb with hb|hb|hb;·exact h2 b (by simp[hb])
 ·exact h4 b hb
 ·exact h2 b (by simp[hb])
end
def bj(base:Nat)(w:World)(g c:Nat)(l:List ag):Prop:=az w base 62 (.slice (some ⟨g,0,none⟩) l.length c) l (fun b=>(b≠g∧base≤b)∧b<w.heap.size)
theorem bj.below{base:Nat}{w w':World}{g c:Nat}{l:List ag}(h:bj base w g c l)(hb:Below w.heap.size w w'):bj base w' g c l:=az.mono (az.al h hb fun b hb=>hb.2) fun b h=>⟨h.1,Nat.lt_of_lt_of_le h.2 hb.size⟩
theorem bj.lt{base:Nat}{w:World}{g c:Nat}{l:List ag}(h:bj base w g c l):g<w.heap.size:=(az.an h g rfl).2
theorem bj.sb{base:Nat}{w:World}{g c:Nat}{l:List ag}(h:bj base w g c l):SB base w l (some ⟨g,0,none⟩) c:=by
 have hlt:=az.an h g rfl;obtain⟨_,h2⟩:=az.ss h w (fun b=>base≤b∧b<w.heap.size) (fun _ _=>rfl) (fun b hb=>by rcases hb with hb|hb;(·simp only[Value.ownBlock,Option.some.injEq] at hb;exact⟨by omega,by omega⟩);·exact⟨hb.1.2,hb.2⟩);exact h2
theorem bj.swap{base:Nat}{w:World}{g c:Nat}{P R:List ag}{x y:ag}{Ax Ay:Option Addr}{cx cy:Nat}(h:bj base w g c (P++y::x::R))(hx:RS w (fun b=>(b≠g∧base≤b)∧b<w.heap.size) x [.int .i64 x.kind,.slice Ax x.p.length cx])(hy:RS w (fun b=>(b≠g∧base≤b)∧b<w.heap.size) y [.int .i64 y.kind,.slice Ay y.p.length cy]):bj base (bl (bl w g ((P.length+1)*2) [.int .i64 y.kind,.slice Ay y.p.length cy]) g (P.length*2) [.int .i64 x.kind,.slice Ax x.p.length cx]) g c (P++x::y::R):=by
 have hlen:(P++y::x::R).length=(P++x::y::R).length:=by simp
 have h1:=az.stored (i:=P.length+1) h (by simp) hy (fun b hb=>hb.1.1);have hk: ∀b,((b≠g∧base≤b)∧b<w.heap.size)→(bl w g ((P.length+1)*2) [.int .i64 y.kind,.slice Ay y.p.length cy]).heap[b]? =w.heap[b]? :=fun b hb=>bu g _ w _ b hb.1.1;have hx':RS (bl w g ((P.length+1)*2) [.int .i64 y.kind,.slice Ay y.p.length cy]) (fun b=>(b≠g∧base≤b)∧b<w.heap.size) x [.int .i64 x.kind,.slice Ax x.p.length cx]:=RS.al hx hk (fun b hb=>hb);have h2:=az.stored (i:=P.length) h1 (by simp) hx' (fun b hb=>hb.1.1);rw[vQ] at h2;rw[hlen] at h2;exact az.mono h2 fun b hb=>⟨hb.1,by rw[cA,cA];exact hb.2⟩
theorem bj.at{base:Nat}{w:World}{g c:Nat}{l:List ag}(h:bj base w g c l){i:Nat}(hi:i<l.length): ∃A' c',RS w (fun b=>(b≠g∧base≤b)∧b<w.heap.size) l[i] [.int .i64 l[i].kind,.slice A' l[i].p.length c']∧SA w l[i].p A' c'∧w.cell? ⟨g,i*2,none⟩=some (.int .i64 l[i].kind)∧w.cell? ⟨g,i*2+1,none⟩=some (.slice A' l[i].p.length c'):=by
 obtain⟨F,h1,h2⟩:=h;obtain⟨F',cs,hr,hs,hc⟩:=h1.at hi;obtain⟨A',c',rfl,hI,hsl⟩:=hr;exact⟨A',c',⟨F',⟨A',c',rfl,hI,hsl⟩,fun b hb=>h2 b (hs b hb)⟩,⟨F',hsl,fun b hb=>(h2 b (hs b hb)).2⟩,hc.c0,hc.c1⟩
theorem bj.facts{base:Nat}{w:World}{g c:Nat}{l:List ag}(h:bj base w g c l){i:Nat}(hi:i<l.length):w.frozen? ⟨g,i*2,none⟩=false∧w.frozen? ⟨g,i*2+1,none⟩=false:=by
 obtain⟨F,h1,h2⟩:=h;have f0:=(h1.facts hi (show 0<aD.wd ag by decide)).2;have f1:=(h1.facts hi (show 1<aD.wd ag by decide)).2;exact⟨f0,f1⟩
def eB(T q D:List ag)(x:ag)(m:Nat):List ag:=T++(q.take m++x::q.drop m)++D
theorem ju(T q D:List ag)(x:ag){m:Nat}(h:m<q.length):eB T q D x (m+1)=(T++q.take m)++q[m]::x::(q.drop (m+1)++D):=by
 unfold eB;rw[List.take_succ_eq_append_getElem h];simp only[List.append_assoc,List.cons_append,List.nil_append,List.singleton_append]
theorem lM(T q D:List ag)(x:ag){m:Nat}(h:m<q.length):(T++q.take m)++x::q[m]::(q.drop (m+1)++D)=eB T q D x m:=by
 unfold eB;rw[List.drop_eq_getElem_cons h];simp only[List.append_assoc,List.cons_append,List.nil_append,List.singleton_append]
theorem ey(w:World)(g off:Nat)(cs:List Value):Kept [g] w (bl w g off cs):=by
 have h:=iN g cs w off;exact⟨h.1,h.2.1,h.2.2,by rw[cA];omega,fun b _ hb=>bu g cs w off b (by simpa using hb)⟩
theorem mu(l:List ag)(a b:Nat)(hab:a<b)(hb:b≤l.length)(hl:l.length≤1048576)(base g c:Nat)(w:World)(h:bj base w g c l)(hcf: ∀(a:Array Value)(w:World),(callFunc 157 a).run Tryz.prog w=.ok (.enter 157 a) w):Calls Tryz.prog 253 #[.slice (some ⟨g,0,none⟩) l.length c,.int .i64 (a:Int),.int .i64 (b:Int),.func (.func 157) #[] #[]] w (fun e w'=>e=.returned (.tuple #[])∧bj base w' g c (l.take a++aq ao [] ((l.drop a).take (b-a))++l.drop b)∧Kept [g] w w'):=by
 have HR:=AJ h;clear h;have ha1:IntKind.i64.wrap ((a:Int)+1)=((a+1:Nat):Int):=by rw[IntKind.wrap_i64];omega
 have hcfg1:l.take a++aq ao [] ((l.drop a).take (a+1-a))++l.drop (a+1)=l:=by rw[show a+1-a=1 by omega,List.drop_eq_getElem_cons (show a<l.length by omega)];simp only[List.take_succ_cons,List.take_zero,aq,cw,cI,List.reverse_nil,List.reverse_cons,List.nil_append];rw[List.append_assoc,List.singleton_append,←List.drop_eq_getElem_cons (show a<l.length by omega),List.take_append_drop]
 have HC:=AJ hcfg1;clear hcfg1;go_enter Tryz.func253,Tryz.ntmps253;go_wp2_with fail;go_loopg[8] (b-(a+1)) (fun gk s8 wr=> ∃i:Nat,s8=.int .i64 (i:Int)∧a<i∧i≤b∧gk=b-i∧bj base wr g c (l.take a++aq ao [] ((l.drop a).take (i-a))++l.drop i)∧Kept [g] w wr);case atStart=>exact⟨a+1,by first|rfl|go_num,by omega,by omega,rfl,by rw[HC.out];exact HR.out,Kept.refl _ _⟩
 case round=>
  obtain⟨i,rfl,hai,hib,rfl,hrow,hkept⟩:=hrel;by_cases hlt:i<b
  ·have hil:i<l.length:=by omega
   obtain⟨q,hq⟩: ∃q,q=aq ao [] ((l.drop a).take (i-a)):=⟨_,rfl⟩;obtain⟨x,hx⟩: ∃x,x=l[i]:=⟨_,rfl⟩;obtain⟨T,hT⟩: ∃T,T=l.take a:=⟨_,rfl⟩;obtain⟨D,hD⟩: ∃D,D=l.drop (i+1):=⟨_,rfl⟩;have hql:q.length=i-a:=by rw[hq,fI,List.length_take,List.length_drop];omega
   have hTl:T.length=a:=by rw[hT,List.length_take];omega
   have hrow0:bj base wr g c (eB T q D x q.length):=by(have e:eB T q D x q.length=l.take a++aq ao [] ((l.drop a).take (i-a))++l.drop i:=by unfold eB;rw[List.take_length,List.drop_length,←hq,←hT,hD,hx,List.drop_eq_getElem_cons hil];simp);rw[e];exact hrow
   have hnext: ∀m,eB T q D x m=l.take a++(q.take m++[x]++q.drop m)++l.drop (i+1):=fun m=>by unfold eB;rw[hT,hD];simp
   have hins:aq ao [] ((l.drop a).take (i+1-a))=cw ao q x:=by(have h1:i-a<(l.drop a).length:=by rw[List.length_drop];omega);rw[show i+1-a=i-a+1 by omega,List.take_succ_eq_append_getElem h1,fX,←hq,hx];congr 1;rw[List.getElem_drop];congr 1;omega
   have hlenc: ∀m,m≤q.length→(eB T q D x m).length=l.length:=fun m hm=>by rw[hnext m];simp only[List.length_append,List.length_take,List.length_drop,List.length_singleton];omega
   have HF:=AJ (AH hq (AH hnext (AH hins (AH hql (AH hTl hlenc)))));clear hq hnext hins hx hT hD hTl hlenc;have HK:=AJ (AH hrow0 hkept);clear hrow hrow0 hkept;have HL:=AJ hql;clear hql;have hi1:(i:Int)<b:=by omega
   go_wp2_with fail;rename World=>wo;go_loopg[9] q.length (fun gk s9 wx=>s9=.int .i64 ((a+gk:Nat):Int)∧gk≤q.length∧Hid (∀k(h:k<q.length),gk≤k→ao x q[k]=true)∧bj base wx g c (eB T q D x gk)∧Kept [g] w wx);case atStart=>exact⟨by rw[HL.out,show a+(i-a)=i by omega],by omega,fun k h h2=>by omega,HK.out.1,HK.out.2⟩
   case round=>
    obtain⟨rfl,hgk,hLt,hrow,hkept⟩:=hrel;rcases Nat.eq_zero_or_pos gk with rfl|hpos
    ·have hend:eB T q D x 0=l.take a++aq ao [] ((l.drop a).take (i+1-a))++l.drop (i+1):=by rw[HF.out.2.1,HF.out.2.2.1,dH ao x _ q 0 rfl (by omega) (fun k h _=>hLt.out k h (by omega)) (fun h h0=>by omega)]
     rw[hend] at hrow;have HW:=AJ (AH hrow hkept);clear hLt hrow hkept hend;have hj0: ¬((a:Int)<(a:Int)):=by omega
     go_wp2_with fail;go_quiet(fail);go_wp2_with fail;go_roundg(b-(i+1));case measure=>omega
     case rel=>exact⟨i+1,by first|rfl|go_num,by omega,by omega,rfl,by first|exact HW.out.1|exact HW.out.1.below (below_drewN (ae _) _),by first|exact HW.out.2|exact HW.out.2.trans (Kept.aA (below_drewN (ae _) _))⟩
    ·obtain⟨m,rfl⟩: ∃m,gk=m+1:=⟨gk-1,by omega⟩;have hm:m<q.length:=by omega
     have hlc:=HF.out.2.2.2.2.2 (m+1) (by omega);rw[ju T q D x hm] at hrow hlc;obtain⟨y,hy⟩: ∃y,y=q[m]:=⟨_,rfl⟩;rw[←hy] at hrow hlc;obtain⟨P,hP⟩: ∃P,P=T++q.take m:=⟨_,rfl⟩;obtain⟨R,hR⟩: ∃R,R=q.drop (m+1)++D:=⟨_,rfl⟩;rw[←hP,←hR] at hrow hlc;obtain⟨K,hK⟩: ∃K,K=a+m:=⟨_,rfl⟩;have hPl:P.length=K:=by rw[hP,hK,List.length_append,List.length_take,HF.out.2.2.2.2.1];omega
     obtain⟨Ax,cx,hRx,hSx,x0,x1⟩:=hrow.at (i:=P.length+1) (by simp);obtain⟨Ay,cy,hRy,hSy,y0,y1⟩:=hrow.at (i:=P.length) (by simp);have fx:=hrow.facts (i:=P.length+1) (by simp);have fy:=hrow.facts (i:=P.length) (by simp);rw[ld] at hRx hSx x0 x1;rw[kJ] at hRy hSy y0 y1;have hKl:K+1<l.length:=by rw[←hlc,←hPl];simp
     rw[hPl] at x0 x1 y0 y1 fx fy;obtain⟨fx0,fx1⟩:=fx;obtain⟨fy0,fy1⟩:=fy;obtain⟨r,hr⟩: ∃r,r=fq x y:=⟨_,rfl⟩;have hlt2:=gX x y;rw[←hr] at hlt2;have hgl:=hrow.lt;have HX:=AJ (AH hr (AH hlt2 (AH hPl (AH hK (AH hP (AH hR hy))))));clear hr hlt2 hPl hP hR hy hlc;have HS:=AJ (AH hSx (AH hSy (AH hRx hRy)));clear hSx hSy hRx hRy;have HW:=AJ (AH hLt (AH hrow hkept));clear hLt hrow hkept;have hk1:(a:Int)<(K:Int)+1:=by omega
     have hk2:IntKind.i64.wrap ((K:Int)+1-1)=(K:Int):=by rw[IntKind.wrap_i64];omega
     have hk6:IntKind.i64.wrap (K:Int)=(K:Int):=by rw[IntKind.wrap_i64];omega
     have hk3:(K:Int)+1<l.length:=by omega
     have hk3':(K:Int)<l.length:=by omega
     have hk4:(0:Int)≤K:=by omega
     have hk5:(0:Int)≤(K:Int)+1:=by omega
     have hk7:((K:Int)+1).toNat=K+1:=by omega
     rw[show a+(m+1)=K+1 by omega];clear hK;by_cases hneg:r<0
     ·go_wp2_with fail;go_region_held3(fun u=>u.cell? ⟨g,(K+1)*2,none⟩=some (.int .i64 x.kind)∧u.cell? ⟨g,(K+1)*2+1,none⟩=some (.slice Ax x.p.length cx)∧u.cell? ⟨g,K*2,none⟩=some (.int .i64 y.kind)∧u.cell? ⟨g,K*2+1,none⟩=some (.slice Ay y.p.length cy)) (go_keep) (first|(go_at_call 157;(refine(cN x y Ax Ay cx cy _ (by first|exact HS.out.1|exact HS.out.1.drew) (by first|exact HS.out.2.1|exact HS.out.2.1.drew)).mono ?_;rintro e w3 ⟨rfl,hb3⟩;rw[←HX.out.1];have HB3:=AJ (AH (show Below wr.heap.size wr w3 from(by first|exact hb3|exact ak (ae wr).drew hb3)) True.intro);have zx0:=(HB3.out.1.cell (p:=⟨g,_,none⟩) hgl).trans x0;have zx1:=(HB3.out.1.cell (p:=⟨g,_,none⟩) hgl).trans x1;have zy0:=(HB3.out.1.cell (p:=⟨g,_,none⟩) hgl).trans y0;have zy1:=(HB3.out.1.cell (p:=⟨g,_,none⟩) hgl).trans y1;have gx0:=(HB3.out.1.frozen (p:=⟨g,_,none⟩) hgl).trans fx0;have gx1:=(HB3.out.1.frozen (p:=⟨g,_,none⟩) hgl).trans fx1;have gy0:=(HB3.out.1.frozen (p:=⟨g,_,none⟩) hgl).trans fy0;have gy1:=(HB3.out.1.frozen (p:=⟨g,_,none⟩) hgl).trans fy1;clear hb3)))
      all_goals
       go_wp2_with fail;go_region_law(fail)
       all_goals
        go_wp2_with fail;go_roundg m;case measure=>omega
        case rel=>
         have hwx:RS w3 (fun b=>(b≠g∧base≤b)∧b<w3.heap.size) x [.int .i64 x.kind,.slice Ax x.p.length cx]:=RS.al HS.out.2.2.1 (fun b hb=>HB3.out.1.block b hb.2) (fun b hb=>⟨hb.1,Nat.lt_of_lt_of_le hb.2 HB3.out.1.size⟩);have hwy:RS w3 (fun b=>(b≠g∧base≤b)∧b<w3.heap.size) y [.int .i64 y.kind,.slice Ay y.p.length cy]:=RS.al HS.out.2.2.2 (fun b hb=>HB3.out.1.block b hb.2) (fun b hb=>⟨hb.1,Nat.lt_of_lt_of_le hb.2 HB3.out.1.size⟩);have hsw:=bj.swap (HW.out.2.1.below HB3.out.1) hwx hwy;rw[HX.out.2.2.1] at hsw;have e:=lM T q D x hm;rw[←HX.out.2.2.2.2.2.2,←HX.out.2.2.2.2.1,←HX.out.2.2.2.2.2.1] at e;rw[e] at hsw;refine⟨by rw[←HX.out.2.2.2.1]<;>first|rfl|go_num,by omega,fun k h hk=> ?_,bj.below hsw (ae _).drew,(HW.out.2.2.trans ((Kept.aA HB3.out.1).trans ((ey w3 g ((K+1)*2) [.int .i64 y.kind,.slice Ay y.p.length cy]).trans (ey _ g (K*2) [.int .i64 x.kind,.slice Ax x.p.length cx])))).trans (Kept.aA (ae _).drew)⟩;rcases Nat.lt_or_ge m k with h7|h7;·exact HW.out.1.out k h (by omega)
         ·have h8:k=m:=by omega
          subst h8;rw[←HX.out.2.2.2.2.2.2,←HX.out.2.1];exact decide_eq_true hneg
     ·go_wp2_with fail;go_region_held3(fun u=>u.cell? ⟨g,(K+1)*2,none⟩=some (.int .i64 x.kind)∧u.cell? ⟨g,(K+1)*2+1,none⟩=some (.slice Ax x.p.length cx)∧u.cell? ⟨g,K*2,none⟩=some (.int .i64 y.kind)∧u.cell? ⟨g,K*2+1,none⟩=some (.slice Ay y.p.length cy)) (go_keep) (first|(go_at_call 157;(refine(cN x y Ax Ay cx cy _ (by first|exact HS.out.1|exact HS.out.1.drew) (by first|exact HS.out.2.1|exact HS.out.2.1.drew)).mono ?_;rintro e w3 ⟨rfl,hb3⟩;rw[←HX.out.1];have HB3:=AJ (AH (show Below wr.heap.size wr w3 from(by first|exact hb3|exact ak (ae wr).drew hb3)) True.intro);have zx0:=(HB3.out.1.cell (p:=⟨g,_,none⟩) hgl).trans x0;have zx1:=(HB3.out.1.cell (p:=⟨g,_,none⟩) hgl).trans x1;have zy0:=(HB3.out.1.cell (p:=⟨g,_,none⟩) hgl).trans y0;have zy1:=(HB3.out.1.cell (p:=⟨g,_,none⟩) hgl).trans y1;have gx0:=(HB3.out.1.frozen (p:=⟨g,_,none⟩) hgl).trans fx0;have gx1:=(HB3.out.1.frozen (p:=⟨g,_,none⟩) hgl).trans fx1;have gy0:=(HB3.out.1.frozen (p:=⟨g,_,none⟩) hgl).trans fy0;have gy1:=(HB3.out.1.frozen (p:=⟨g,_,none⟩) hgl).trans fy1;clear hb3)))
      all_goals
       go_wp2_with fail;go_roundg(b-(i+1));case measure=>omega
       case rel=>
        refine⟨i+1,by first|rfl|go_num,by omega,by omega,rfl,?_,HW.out.2.2.trans (Kept.aA HB3.out.1)⟩;have hend:P++y::x::R=l.take a++aq ao [] ((l.drop a).take (i+1-a))++l.drop (i+1):=by have h1:=ju T q D x hm;rw[←HX.out.2.2.2.2.2.2,←HX.out.2.2.2.2.1,←HX.out.2.2.2.2.2.1] at h1;rw[←h1,HF.out.2.1,HF.out.2.2.1,dH ao x _ q (m+1) rfl (by omega) (fun k h hk=>HW.out.1.out k h hk) (fun h h0=>by simp only[Nat.add_sub_cancel];rw[←HX.out.2.2.2.2.2.2,←HX.out.2.1];simp;omega)]
        rw[←hend];exact HW.out.2.1.below HB3.out.1
  ·have e:i=b:=by omega
   rw[e] at hrow;have HW:=AJ (AH hrow hkept);clear hrow hkept e;have hi2: ¬(i:Int)<b:=by omega
   go_wp2_with fail;refine bodyPost_end (v:=.tuple #[]) (by simp[results,Tryz.results253,go_sem]) rfl ?_;exact⟨rfl,by have h:=HW.out.1;rwa[List.append_assoc] at h,HW.out.2⟩
end
def kg(l:List ag)(i j:Nat):List ag:=(l.set i (l.getD j default)).set j (l.getD i default)
def me(l:List ag)(a b:Nat):Nat→List ag|0=>l|n+1=>kg (me l a b n) (a+n) (b+n)
theorem rP(l:List ag)(i j:Nat):(kg l i j).length=l.length:=by
 simp[kg]
theorem kB(l:List ag)(a b:Nat): ∀n,(me l a b n).length=l.length|0=>rfl|n+1=>by rw[me,rP,kB l a b n]
theorem bj.yJ{base:Nat}{w:World}{g c:Nat}{l:List ag}{i j:Nat}(h:bj base w g c l)(hi:i<l.length)(hj:j<l.length){Ax Ay:Option Addr}{cx cy:Nat}(hx:RS w (fun b=>(b≠g∧base≤b)∧b<w.heap.size) l[i] [.int .i64 l[i].kind,.slice Ax l[i].p.length cx])(hy:RS w (fun b=>(b≠g∧base≤b)∧b<w.heap.size) l[j] [.int .i64 l[j].kind,.slice Ay l[j].p.length cy]):bj base (bl (bl w g (i*2) [.int .i64 l[j].kind,.slice Ay l[j].p.length cy]) g (j*2) [.int .i64 l[i].kind,.slice Ax l[i].p.length cx]) g c (kg l i j):=by
 have h1:=az.stored (i:=i) h hi hy (fun b hb=>hb.1.1);have hk: ∀b,((b≠g∧base≤b)∧b<w.heap.size)→(bl w g (i*2) [.int .i64 l[j].kind,.slice Ay l[j].p.length cy]).heap[b]? =w.heap[b]? :=fun b hb=>bu g _ w _ b hb.1.1;have hx':RS (bl w g (i*2) [.int .i64 l[j].kind,.slice Ay l[j].p.length cy]) (fun b=>(b≠g∧base≤b)∧b<w.heap.size) l[i] [.int .i64 l[i].kind,.slice Ax l[i].p.length cx]:=RS.al hx hk (fun b hb=>hb);have h2:=az.stored (i:=j) h1 (by simpa using hj) hx' (fun b hb=>hb.1.1);have e:(l.set i l[j]).set j l[i]=kg l i j:=by unfold kg;rw[List.getD_eq_getElem?_getD,List.getD_eq_getElem?_getD,List.getElem?_eq_getElem hi,List.getElem?_eq_getElem hj];rfl
 rw[e] at h2;have hlen:=rP l i j;unfold bj;rw[hlen];exact az.mono h2 fun b hb=>⟨hb.1,by rw[cA,cA];exact hb.2⟩
theorem gn(l:List ag)(a b n:Nat)(ha:a+n≤b)(hb:b+n≤l.length)(hl:l.length≤1048576)(f:Value)(base g c:Nat)(w:World)(h:bj base w g c l):Calls Tryz.prog 326 #[.slice (some ⟨g,0,none⟩) l.length c,.int .i64 (a:Int),.int .i64 (b:Int),.int .i64 (n:Int),f] w (fun e w'=>e=.returned (.tuple #[])∧bj base w' g c (me l a b n)∧Kept [g] w w'):=by
 have HR:=AJ h;clear h;go_enter Tryz.func326,Tryz.ntmps326;go_wp2_with fail;go_loopg[10] n (fun gk s10 wr=> ∃i:Nat,s10=.int .i64 (i:Int)∧i≤n∧gk=n-i∧bj base wr g c (me l a b i)∧Kept [g] w wr);case atStart=>exact⟨0,rfl,by omega,rfl,HR.out,Kept.refl _ _⟩
 case round=>
  obtain⟨i,rfl,hi,rfl,hrow,hkept⟩:=hrel;by_cases hlt:i<n
  ·obtain⟨L,hL⟩: ∃L,L=me l a b i:=⟨_,rfl⟩;have hLl:L.length=l.length:=by rw[hL,kB]
   rw[←hL] at hrow;obtain⟨I,hI⟩: ∃I,I=a+i:=⟨_,rfl⟩;obtain⟨J,hJ⟩: ∃J,J=b+i:=⟨_,rfl⟩;have hIl:I<L.length:=by omega
   have hJl:J<L.length:=by omega
   obtain⟨Ax,cx,hRx,hSx,x0,x1⟩:=hrow.at hIl;obtain⟨Ay,cy,hRy,hSy,y0,y1⟩:=hrow.at hJl;obtain⟨fx0,fx1⟩:=hrow.facts hIl;obtain⟨fy0,fy1⟩:=hrow.facts hJl;have hsw:=hrow.yJ hIl hJl hRx hRy;have hsn:kg L I J=me l a b (i+1):=by rw[me,←hL,←hI,←hJ]
   rw[hsn] at hsw;obtain⟨X,hX⟩: ∃X,X=L[I]:=⟨_,rfl⟩;obtain⟨Y,hY⟩: ∃Y,Y=L[J]:=⟨_,rfl⟩;rw[←hX,←hY] at hsw;rw[←hX] at x0 x1;rw[←hY] at y0 y1;have HS:=AJ (AH hsw hkept);have hw1:IntKind.i64.wrap ((a:Int)+(i:Int))=(I:Int):=by rw[IntKind.wrap_i64];omega
   have hw2:IntKind.i64.wrap ((b:Int)+(i:Int))=(J:Int):=by rw[IntKind.wrap_i64];omega
   have hk1:(0:Int)≤I:=by omega
   have hk2:(0:Int)≤J:=by omega
   have hk3:(I:Int)<l.length:=by omega
   have hk4:(J:Int)<l.length:=by omega
   have hi1:(i:Int)<n:=by omega
   have hne1:I*2≠J*2:=by omega
   have hne2:J*2≠I*2:=by omega
   have hne3:I*2+1≠J*2:=by omega
   have hne4:J*2≠I*2+1:=by omega
   have hne5:I*2≠J*2+1:=by omega
   have hne6:J*2+1≠I*2:=by omega
   have hne7:I≠J:=by omega
   have hne8:J≠I:=by omega
   clear hSx hSy hsw hkept hrow hRx hRy hsn hL hLl hX hY hI hJ hIl hJl;go_wp2_with fail;go_region_law(fail)
   all_goals
    go_wp2_with fail;go_roundg(n-(i+1));case measure=>omega
    case rel=>exact⟨i+1,by first|rfl|go_num,by omega,rfl,bj.below HS.out.1 (ae _).drew,(HS.out.2.trans ((ey _ g (I*2) [.int .i64 Y.kind,.slice Ay Y.p.length cy]).trans (ey _ g (J*2) [.int .i64 X.kind,.slice Ax X.p.length cx]))).trans (Kept.aA (ae _).drew)⟩
  ·have e:i=n:=by omega
   rw[e] at hrow;have HW:=AJ (AH hrow hkept);clear hrow hkept e;have hi2: ¬(i:Int)<n:=by omega
   go_wp2_with fail;refine bodyPost_end (v:=.tuple #[]) (by simp[results,Tryz.results326,go_sem]) rfl ?_;exact⟨rfl,HW.out.1,HW.out.2⟩
section
theorem gH{A B:List ag}{x:ag}{i:Nat}(h:A.length=i):(A++x::B).getD i default=x:=by
 subst h;simp
theorem nv{A B:List ag}{x y:ag}{i:Nat}(h:A.length=i):(A++x::B).set i y=A++y::B:=by
 subst h;simp
theorem r8{A B C:List ag}{x y:ag}{i j:Nat}(hi:A.length=i)(hj:(A++x::B).length=j):kg (A++x::B++y::C) i j=A++y::B++x::C:=by
 unfold kg;rw[gH hj,show A++x::B++y::C=A++x::(B++y::C) by simp,gH hi,nv hi];rw[show A++y::(B++y::C)=(A++y::B)++y::C by simp,nv (by rw[←hj];simp)]
theorem vp{A C:List ag}{x y:ag}{i j:Nat}(hi:A.length=i)(hj:j=i+1):kg (A++x::y::C) i j=A++y::x::C:=by
 have h:=r8 (B:=[]) (C:=C) (x:=x) (y:=y) hi (j:=j) (by simp[hj,hi]);simpa using h
theorem xZ{A C:List ag}{x y:ag}{i j:Nat}(hi:A.length=i)(hj:j=i+1):kg (A++x::y::C) j i=A++y::x::C:=by
 unfold kg;rw[gH hi,show A++x::y::C=(A++[x])++y::C by simp,gH (by simp[hj,hi]),nv (by simp[hj,hi])];rw[show(A++[x])++x::C=A++x::x::C by simp,nv hi]
theorem gl: ∀(n:Nat)(P X M Y S:List ag)(a b:Nat),X.length=n→Y.length=n→P.length=a→P.length+n+M.length=b→me (P++X++M++Y++S) a b n=P++Y++M++X++S|0,P,X,M,Y,S,a,b,hX,hY,ha,hb=>by rw[List.length_eq_zero_iff.1 hX,List.length_eq_zero_iff.1 hY];rfl|n+1,P,X,M,Y,S,a,b,hX,hY,ha,hb=>by(have hx:X≠[]:=by intro e;rw[e] at hX;simp at hX);(have hy:Y≠[]:=by intro e;rw[e] at hY;simp at hY);obtain⟨X0,x,rfl⟩: ∃X0 x,X=X0++[x]:=⟨X.dropLast,X.getLast hx,(List.dropLast_concat_getLast hx).symm⟩;obtain⟨Y0,y,rfl⟩: ∃Y0 y,Y=Y0++[y]:=⟨Y.dropLast,Y.getLast hy,(List.dropLast_concat_getLast hy).symm⟩;(have hX0:X0.length=n:=by simpa using hX);(have hY0:Y0.length=n:=by simpa using hY);have ih:=gl n P X0 (x::M) Y0 (y::S) a b hX0 hY0 ha (by simp;omega);(have e1:P++(X0++[x])++M++(Y0++[y])++S=P++X0++(x::M)++Y0++(y::S):=by simp);rw[me,e1,ih];have e2:=r8 (A:=P++Y0) (B:=M++X0) (C:=S) (x:=x) (y:=y) (i:=a+n) (j:=b+n) (by simp;omega) (by simp;omega);rw[show P++Y0++x::M++X0++y::S=P++Y0++x::(M++X0)++y::S by simp,e2];simp
def gP(Z l:List ag)(m i j:Nat):Prop:= ∃P X Y S,l=P++X++Y++S∧Z=P++Y++X++S∧X.length=i∧Y.length=j∧P.length+i=m
theorem gP.gt{Z l:List ag}{m i j:Nat}(h:gP Z l m i j)(hij:j<i):gP Z (me l (m-i) m j) m (i-j) j:=by
 obtain⟨P,X,Y,S,rfl,rfl,hX,hY,hP⟩:=h;have e:=List.take_append_drop j X;obtain⟨X1,h1⟩: ∃X1,X1=X.take j:=⟨_,rfl⟩;obtain⟨X2,h2⟩: ∃X2,X2=X.drop j:=⟨_,rfl⟩;rw[←h1,←h2] at e;have l1:X1.length=j:=by rw[h1,List.length_take];omega
 have l2:X2.length=i-j:=by rw[h2,List.length_drop];omega
 subst e;have h:=gl j P X1 X2 Y S (m-i) m l1 hY (by omega) (by omega);rw[show P++(X1++X2)++Y++S=P++X1++X2++Y++S by simp,h];exact⟨P++Y,X2,X1,S,rfl,by simp,l2,l1,by simp;omega⟩
theorem gP.lt{Z l:List ag}{m i j:Nat}(h:gP Z l m i j)(hij:i<j):gP Z (me l (m-i) (m+j-i) i) m i (j-i):=by
 obtain⟨P,X,Y,S,rfl,rfl,hX,hY,hP⟩:=h;have e:=List.take_append_drop (j-i) Y;obtain⟨Y1,h1⟩: ∃Y1,Y1=Y.take (j-i):=⟨_,rfl⟩;obtain⟨Y2,h2⟩: ∃Y2,Y2=Y.drop (j-i):=⟨_,rfl⟩;rw[←h1,←h2] at e;have l1:Y1.length=j-i:=by rw[h1,List.length_take];omega
 have l2:Y2.length=i:=by rw[h2,List.length_drop];omega
 subst e;have h:=gl i P X Y1 Y2 S (m-i) (m+j-i) hX l2 (by omega) (by omega);rw[show P++X++(Y1++Y2)++S=P++X++Y1++Y2++S by simp,h];exact⟨P,Y2,Y1,X++S,by simp,by simp,l2,l1,by omega⟩
theorem gP.eq{Z l:List ag}{m i:Nat}(h:gP Z l m i i):me l (m-i) m i=Z:=by
 obtain⟨P,X,Y,S,rfl,rfl,hX,hY,hP⟩:=h;have h:=gl i P X [] Y S (m-i) m hX hY (by omega) (by simp;omega);simpa using h
theorem gP.len{Z l:List ag}{m i j:Nat}(h:gP Z l m i j):m+j≤l.length∧i≤m∧Z.length=l.length:=by
 obtain⟨P,X,Y,S,rfl,rfl,hX,hY,hP⟩:=h;simp;omega
section
variable {α : Type} {lt : α → α → Bool}
theorem cB.pz(O:l9 lt){x:α}{Y:List α}(h:cB lt Y)(h1: ∀y,Y.head? =some y→lt y x=false):cB lt (x::Y):=by
 cases Y with|nil=>exact List.pairwise_singleton _ _|cons z Y=>have h2:=h1 z rfl;exact List.pairwise_cons.2 ⟨fun b hb=>O.le_trans x z b h2 (cB.lg O h b hb),h⟩
theorem vu(O:l9 lt){x:α}{Y1 Y2:List α}(hY:cB lt (Y1++Y2))(h1: ∀y,Y1.getLast? =some y→lt y x=true)(h2: ∀y,Y2.head? =some y→lt y x=false):cB lt (Y1++x::Y2)∧(Y1++x::Y2).Perm ([x]++(Y1++Y2)):=by
 have hY':=(cB.append O).1 hY;have s2:=cB.pz O hY'.2.1 h2;refine⟨(cB.append O).2 ⟨hY'.1,s2,cB.meet O hY'.1 s2 fun y z hy hz=> ?_⟩,?_⟩;·simp at hz;subst hz;exact O.rH _ _ (h1 y hy)
 ·exact List.perm_middle
theorem td(O:l9 lt){y:α}{X1 X2:List α}(hX:cB lt (X1++X2))(h1: ∀x,X1.getLast? =some x→lt y x=false)(h2: ∀x,X2.head? =some x→lt y x=true):cB lt (X1++y::X2)∧(X1++y::X2).Perm (X1++X2++[y]):=by
 have hX':=(cB.append O).1 hX;have s2:cB lt (y::X2):=cB.pz O hX'.2.1 fun x hx=>O.rH _ _ (h2 x hx);refine⟨(cB.append O).2 ⟨hX'.1,s2,cB.meet O hX'.1 s2 fun x z hx hz=> ?_⟩,?_⟩;·simp at hz;subst hz;exact h1 x hx
 ·rw[List.append_assoc];refine List.Perm.append_left X1 ?_;exact(List.perm_append_comm (l₁:=[y]) (l₂:=X2))
end
end
theorem tv(Z l:List ag)(a m b:Nat)(ham:a<m)(hmb:m<b)(hr:gP Z l m (m-a) (b-m))(hl:l.length≤1048576)(f:Value)(base g c:Nat)(w:World)(h:bj base w g c l):Calls Tryz.prog 287 #[.slice (some ⟨g,0,none⟩) l.length c,.int .i64 (a:Int),.int .i64 (m:Int),.int .i64 (b:Int),f] w (fun e w'=>e=.returned (.tuple #[])∧bj base w' g c Z∧Kept [g] w w'):=by
 have hZ:=hr.len;have HR:=AJ (AH h hr);clear h hr;have hw1:IntKind.i64.wrap ((m:Int)-(a:Int))=((m-a:Nat):Int):=by rw[IntKind.wrap_i64];omega
 have hw2:IntKind.i64.wrap ((b:Int)-(m:Int))=((b-m:Nat):Int):=by rw[IntKind.wrap_i64];omega
 obtain⟨N,hN⟩: ∃N,N=l.length:=⟨_,rfl⟩;rw[←hN] at hZ ⊢;rw[←hN] at hl;have HN:=AJ hN;clear hN;obtain⟨hb1,-,hZl⟩:=hZ;have HZ:=AJ hZl;clear hZl;have hbl:b≤N:=by omega
 clear hb1;go_enter Tryz.func287,Tryz.ntmps287;go_wp2_with fail;go_loopg[10,11] (b-a) (fun gk s10 s11 wr=> ∃(i j:Nat) (L:List ag),s10=.int .i64 (i:Int)∧s11=.int .i64 (j:Int)∧0<i∧0<j∧gk=i+j∧Hid (gP Z L m i j∧L.length=N∧bj base wr g c L∧Kept [g] w wr));case atStart=>exact⟨m-a,b-m,l,by first|rfl|go_num,by first|rfl|go_num,by omega,by omega,by omega,AJ ⟨HR.out.2,HN.out.symm,HR.out.1,Kept.refl _ _⟩⟩
 case round=>
  obtain⟨i,j,L,rfl,rfl,hi,hj,rfl,HQ⟩:=hrel;have hq:=HQ.out.1.len;rw[HQ.out.2.1] at hq;obtain⟨q1,q2,q3⟩:=hq;clear q3;rcases Nat.lt_trichotomy i j with hij|hij|hij
  ·have h1: ¬((i:Int)=(j:Int)):=by omega
   have h2: ¬((j:Int)<(i:Int)):=by omega
   have hv1:IntKind.i64.wrap ((m:Int)-(i:Int))=((m-i:Nat):Int):=by rw[IntKind.wrap_i64];omega
   have hv2:IntKind.i64.wrap ((m:Int)+(j:Int))=(m:Int)+(j:Int):=by rw[IntKind.wrap_i64];omega
   have hv3:IntKind.i64.wrap ((m:Int)+(j:Int)-(i:Int))=(m:Int)+(j:Int)-(i:Int):=by rw[IntKind.wrap_i64];omega
   have hv4:IntKind.i64.wrap ((j:Int)-(i:Int))=((j-i:Nat):Int):=by rw[IntKind.wrap_i64];omega
   have hc:=fun w0 h=>gn L (m-i) (m+j-i) i (by omega) (by rw[HQ.out.2.1];omega) (by rw[HQ.out.2.1];omega) f base g c w0 h;rw[HQ.out.2.1,show((m+j-i:Nat):Int)=(m:Int)+(j:Int)-(i:Int) by omega] at hc;go_wp2_with fail;go_at_call 326;refine(hc _ (by first|exact HQ.out.2.2.1|exact HQ.out.2.2.1.below (ae _).drew)).mono ?_;rintro e w3 ⟨rfl,hr3,hk3⟩;have HK:=AJ (AH hr3 hk3);clear hr3 hk3;go_wp2_with fail;go_roundg(j);case measure=>omega
   case rel=>exact⟨i,j-i,_,rfl,by first|rfl|go_num,hi,by omega,by omega,AJ ⟨HQ.out.1.lt hij,by rw[kB];exact HQ.out.2.1,HK.out.1,by first|exact HQ.out.2.2.2.trans HK.out.2|exact(HQ.out.2.2.2.trans (Kept.aA (ae _).drew)).trans HK.out.2⟩⟩
  ·subst hij;have hv1:IntKind.i64.wrap ((m:Int)-(i:Int))=((m-i:Nat):Int):=by rw[IntKind.wrap_i64];omega
   have hc:=fun w0 h=>gn L (m-i) m i (by omega) (by rw[HQ.out.2.1];omega) (by rw[HQ.out.2.1];omega) f base g c w0 h;rw[HQ.out.2.1,HQ.out.1.eq] at hc;go_wp2_with fail;go_at_call 326;refine(hc _ (by first|exact HQ.out.2.2.1|exact HQ.out.2.2.1.below (ae _).drew)).mono ?_;rintro e w3 ⟨rfl,hr3,hk3⟩;have HK:=AJ (AH hr3 hk3);clear hr3 hk3;go_wp2_with fail;refine bodyPost_end (v:=.tuple #[]) (by simp[results,Tryz.results287,go_sem]) rfl ?_;exact⟨rfl,HK.out.1,by first|exact HQ.out.2.2.2.trans HK.out.2|exact(HQ.out.2.2.2.trans (Kept.aA (ae _).drew)).trans HK.out.2⟩
  ·have h1: ¬((i:Int)=(j:Int)):=by omega
   have h2:((j:Int)<(i:Int)):=by omega
   have hv1:IntKind.i64.wrap ((m:Int)-(i:Int))=((m-i:Nat):Int):=by rw[IntKind.wrap_i64];omega
   have hv4:IntKind.i64.wrap ((i:Int)-(j:Int))=((i-j:Nat):Int):=by rw[IntKind.wrap_i64];omega
   have hc:=fun w0 h=>gn L (m-i) m j (by omega) (by rw[HQ.out.2.1];omega) (by rw[HQ.out.2.1];omega) f base g c w0 h;rw[HQ.out.2.1] at hc;go_wp2_with fail;go_at_call 326;refine(hc _ (by first|exact HQ.out.2.2.1|exact HQ.out.2.2.1.below (ae _).drew)).mono ?_;rintro e w3 ⟨rfl,hr3,hk3⟩;have HK:=AJ (AH hr3 hk3);clear hr3 hk3;go_wp2_with fail;go_roundg(i);case measure=>omega
   case rel=>exact⟨i-j,j,_,by first|rfl|go_num,rfl,by omega,hj,by omega,AJ ⟨HQ.out.1.gt hij,by rw[kB];exact HQ.out.2.1,HK.out.1,by first|exact HQ.out.2.2.2.trans HK.out.2|exact(HQ.out.2.2.2.trans (Kept.aA (ae _).drew)).trans HK.out.2⟩⟩
theorem jo{A Y S:List ag}{m i:Nat}(hA:A.length=m)(hmi:m≤i)(hi:i≤m+Y.length): ∀y,(Y.take (i-m)).getLast? =some y→m<i∧(A++Y++S).getD (i-1) default=y:=by
 intro y hy;rw[List.getLast?_take] at hy;split at hy;·cases hy
 ·rename_i hne;have hlt:i-m-1<Y.length:=by omega
  rw[List.getElem?_eq_getElem hlt] at hy;refine⟨by omega,?_⟩;rw[List.getD_eq_getElem?_getD,List.append_assoc,List.getElem?_append_right (by omega),List.getElem?_append_left (by omega),show i-1-A.length=i-m-1 by omega,List.getElem?_eq_getElem hlt];simpa using hy
theorem jt{A Y S:List ag}{m i:Nat}(hA:A.length=m)(hmi:m≤i): ∀y,(Y.drop (i-m)).head? =some y→i<m+Y.length∧(A++Y++S).getD i default=y:=by
 intro y hy;rw[List.head?_drop] at hy;by_cases hlt:i-m<Y.length;·refine⟨by omega,?_⟩;rw[List.getD_eq_getElem?_getD,List.append_assoc,List.getElem?_append_right (by omega),List.getElem?_append_left (by omega),show i-A.length=i-m by omega,hy];rfl
 ·rw[List.getElem?_eq_none (by omega)] at hy;cases hy
theorem Aj{P Y S:List ag}{x:ag}{m b i:Nat}(hP:P.length+1=m)(hY:Y.length=b-m)(h1:m≤i)(h2:i≤b)(sY:cB ao Y)(c1:i=m∨ao ((P++[x]++Y++S).getD (i-1) default) x=true)(c2:i=b∨ao ((P++[x]++Y++S).getD i default) x=false):cB ao (Y.take (i-m)++x::Y.drop (i-m))∧(Y.take (i-m)++x::Y.drop (i-m)).Perm ([x]++Y):=by
 have e:=List.take_append_drop (i-m) Y;have hA:(P++[x]).length=m:=by simpa using hP
 have h:=vu dj.rR (x:=x) (Y1:=Y.take (i-m)) (Y2:=Y.drop (i-m)) (by rw[e];exact sY) (fun y hy=> ?_) (fun y hy=> ?_);·rw[e] at h;exact h
 ·obtain⟨h3,h4⟩:=jo (S:=S) hA h1 (by omega) y hy;rw[h4] at c1;rcases c1 with c1|c1;·omega
  ·exact c1
 ·obtain⟨h3,h4⟩:=jt (S:=S) hA h1 y hy;rw[h4] at c2;rcases c2 with c2|c2;·omega
  ·exact c2
theorem Ao{P X S:List ag}{y:ag}{a m i:Nat}(hP:P.length=a)(hX:X.length=m-a)(h1:a≤i)(h2:i≤m)(sX:cB ao X)(c1:i=a∨ao y ((P++X++[y]++S).getD (i-1) default)=false)(c2:i=m∨ao y ((P++X++[y]++S).getD i default)=true):cB ao (X.take (i-a)++y::X.drop (i-a))∧(X.take (i-a)++y::X.drop (i-a)).Perm (X++[y]):=by
 have e:=List.take_append_drop (i-a) X;rw[List.append_assoc (P++X)] at c1 c2;have h:=td dj.rR (y:=y) (X1:=X.take (i-a)) (X2:=X.drop (i-a)) (by rw[e];exact sX) (fun x hx=> ?_) (fun x hx=> ?_);·rw[e] at h;exact h
 ·obtain⟨h3,h4⟩:=jo (S:=[y]++S) hP h1 (by omega) x hx;rw[h4] at c1;rcases c1 with c1|c1;·omega
  ·exact c1
 ·obtain⟨h3,h4⟩:=jt (S:=[y]++S) hP h1 x hx;rw[h4] at c2;rcases c2 with c2|c2;·omega
  ·exact c2
theorem zK{P X Y S:List ag}{a m b s e:Nat}(hP:P.length=a)(hX:X.length=m-a)(hY:Y.length=b-m)(has:a≤s)(hsm:s≤m)(hme:m≤e)(heb:e≤b)(sX:cB ao X)(sY:cB ao Y)(c1:s=a∨e=b∨ao ((P++X++Y++S).getD e default) ((P++X++Y++S).getD (s-1) default)=false)(c2:s=m∨e=m∨ao ((P++X++Y++S).getD (e-1) default) ((P++X++Y++S).getD s default)=true){Z1 Z2:List ag}(p1:Z1.Perm (X.take (s-a)++Y.take (e-m)))(p2:Z2.Perm (X.drop (s-a)++Y.drop (e-m)))(s1:cB ao Z1)(s2:cB ao Z2):cB ao (Z1++Z2)∧(Z1++Z2).Perm (X++Y):=by
 have ham:a≤m:=by omega
 have eX:=List.take_append_drop (s-a) X;have eY:=List.take_append_drop (e-m) Y;have hA:(P++X).length=m:=by rw[List.length_append];omega
 have lX: ∀x,(X.take (s-a)).getLast? =some x→a<s∧(P++X++Y++S).getD (s-1) default=x:=fun x hx=>by have h:=jo (S:=Y++S) hP has (by omega) x hx;rwa[←List.append_assoc] at h
 have hX2: ∀x,(X.drop (s-a)).head? =some x→s<a+X.length∧(P++X++Y++S).getD s default=x:=fun x hx=>by have h:=jt (S:=Y++S) hP has x hx;rwa[←List.append_assoc] at h
 have h:=vE dj.rR (X1:=X.take (s-a)) (X2:=X.drop (s-a)) (Y1:=Y.take (e-m)) (Y2:=Y.drop (e-m)) (by rw[eX];exact sX) (by rw[eY];exact sY) (fun x y hx hy=> ?_) (fun x y hx hy=> ?_) p1 p2 s1 s2;·rw[eX,eY] at h;exact h
 ·obtain⟨h3,h4⟩:=lX x hx;obtain⟨h5,h6⟩:=jt (S:=S) hA hme y hy;rw[h4,h6] at c1;rcases c1 with c1|c1|c1;·omega
  ·omega
  ·exact c1
 ·obtain⟨h3,h4⟩:=jo (S:=S) hA hme (by omega) x hx;obtain⟨h5,h6⟩:=hX2 y hy;rw[h4,h6] at c2;rcases c2 with c2|c2|c2;·omega
  ·omega
  ·exact dj.rR.rH _ _ c2
theorem bj.zk{base:Nat}{w:World}{g c:Nat}{l:List ag}(h:bj base w g c l){i:Nat}(hi:i<l.length): ∃(x:ag) (A':Option Addr) (c':Nat),x=l.getD i default∧SA w x.p A' c'∧w.cell? ⟨g,i*2,none⟩=some (.int .i64 x.kind)∧w.cell? ⟨g,i*2+1,none⟩=some (.slice A' x.p.length c'):=by
 obtain⟨A',c',h1,h2,h3,h4⟩:=h.at hi;refine⟨l[i],A',c',?_,h2,h3,h4⟩;rw[List.getD_eq_getElem?_getD,List.getElem?_eq_getElem hi];rfl
theorem bj.swp{base:Nat}{w:World}{g c:Nat}{l:List ag}(h:bj base w g c l){i j:Nat}(hi:i<l.length)(hj:j<l.length): ∃(x y:ag) (Ax Ay:Option Addr) (cx cy:Nat),(w.cell? ⟨g,i*2,none⟩=some (.int .i64 x.kind)∧w.cell? ⟨g,i*2+1,none⟩=some (.slice Ax x.p.length cx))∧(w.cell? ⟨g,j*2,none⟩=some (.int .i64 y.kind)∧w.cell? ⟨g,j*2+1,none⟩=some (.slice Ay y.p.length cy))∧bj base (bl (bl w g (i*2) [.int .i64 y.kind,.slice Ay y.p.length cy]) g (j*2) [.int .i64 x.kind,.slice Ax x.p.length cx]) g c (kg l i j)∧Kept [g] w (bl (bl w g (i*2) [.int .i64 y.kind,.slice Ay y.p.length cy]) g (j*2) [.int .i64 x.kind,.slice Ax x.p.length cx])∧(w.frozen? ⟨g,i*2,none⟩=false∧w.frozen? ⟨g,i*2+1,none⟩=false)∧(w.frozen? ⟨g,j*2,none⟩=false∧w.frozen? ⟨g,j*2+1,none⟩=false):=by
 obtain⟨Ax,cx,hRx,hSx,x0,x1⟩:=h.at hi;obtain⟨Ay,cy,hRy,hSy,y0,y1⟩:=h.at hj;exact⟨l[i],l[j],Ax,Ay,cx,cy,⟨x0,x1⟩,⟨y0,y1⟩,h.yJ hi hj hRx hRy,(ey w g (i*2) _).trans (ey _ g (j*2) _),h.facts hi,h.facts hj⟩
theorem Aw{a m b k:Nat}(ham:a<m)(hmb:m<b)(hk1:2*k≤a+b)(hk2:a+b<2*k+2)(h1:m≠a+1)(h2:b≠m+1): ∃s0 r0:Nat,a≤s0∧s0≤r0∧r0≤m∧r0≤k∧m+k≤s0+b∧m≤m+k-r0∧(s0=a∨m+k-s0=b)∧(r0=m∨m+k-r0=m)∧((k<m∧(s0:Int)=(k:Int)+(m:Int)-(b:Int)∧r0=k)∨(m≤k∧s0=a∧r0=m)):=by
 rcases Nat.lt_or_ge k m with h|h;·exact⟨k+m-b,k,by omega,by omega,by omega,by omega,by omega,by omega,Or.inr (by omega),Or.inr (by omega),Or.inl ⟨h,by omega,rfl⟩⟩
 ·exact⟨a,m,by omega,by omega,by omega,by omega,by omega,by omega,Or.inl rfl,Or.inl rfl,Or.inr ⟨h,rfl,rfl⟩⟩
theorem yM{P X Y S:List ag}{a m b s e:Nat}(hP:P.length=a)(hX:X.length=m-a)(hY:Y.length=b-m)(ham:a≤m)(has:a≤s)(hsm:s≤m)(hme:m≤e)(heb:e≤b):gP (P++X.take (s-a)++Y.take (e-m)++(X.drop (s-a)++Y.drop (e-m)++S)) (P++X++Y++S) m (m-s) (e-m):=by
 have eX:=List.take_append_drop (s-a) X;have eY:=List.take_append_drop (e-m) Y;refine⟨P++X.take (s-a),X.drop (s-a),Y.take (e-m),Y.drop (e-m)++S,?_,by simp,by rw[List.length_drop];omega,by rw[List.length_take];omega,by rw[List.length_append,List.length_take];omega⟩;conv=>lhs;rw[←eX]
 simp only[List.append_assoc];rw[←List.append_assoc (List.take (e-m) Y) (List.drop (e-m) Y),eY]
theorem xa{P X Y S:List ag}{a m b s e:Nat}(hP:P.length=a)(hX:X.length=m-a)(hY:Y.length=b-m)(ham:a≤m)(has:a≤s)(hsm:s≤m)(hme:m≤e)(heb:e≤b)(h: ¬(s<m∧m<e)):P++X.take (s-a)++Y.take (e-m)++(X.drop (s-a)++Y.drop (e-m)++S)=P++X++Y++S:=by
 have eX:=List.take_append_drop (s-a) X;have eY:=List.take_append_drop (e-m) Y;by_cases h1:s=m;·rw[h1,←hX,List.take_length,List.drop_length];simp only[List.append_assoc,List.nil_append];rw[←List.append_assoc (List.take (e-m) Y),eY]
 ·have h2:e-m=0:=by omega
  rw[h2,List.take_zero,List.drop_zero];simp only[List.append_assoc,List.nil_append];rw[←List.append_assoc (List.take (s-a) X),eX]
theorem kA{X:List ag}{k:Nat}(h:cB ao X):cB ao (X.take k):=List.Pairwise.sublist (List.take_sublist k X) h
theorem kZ{X:List ag}{k:Nat}(h:cB ao X):cB ao (X.drop k):=List.Pairwise.sublist (List.drop_sublist k X) h
theorem r7{X Y:List ag}(hX:cB ao X)(hY:cB ao Y)(h: ¬(0<X.length∧0<Y.length)):cB ao (X++Y):=by
 by_cases h1:X.length=0;·rw[List.length_eq_zero_iff.1 h1];exact hY
 ·have h2:Y.length=0:=by omega
  rw[List.length_eq_zero_iff.1 h2,List.append_nil];exact hX
end Go.Proofs.YtodpdjehjllhdaaGreatDoor
