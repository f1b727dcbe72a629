/- Part of a proof: contracts and plain laws. -/
import Derived.Test.YtodpdjehjllhdaaGreatDoorK17
set_option linter.unusedVariables false
set_option linter.unusedSimpArgs false
set_option maxRecDepth 100000
set_option maxHeartbeats 20000000
namespace Go.Proofs.YtodpdjehjllhdaaGreatDoor
open Go.RowKit
def qj(a b:Bool):Int:=if a then-1 else if b then 1 else 0
theorem oB(a b:Bool)(w:World):Calls Tryz.prog 196 #[.bool a,.bool b] w (j2 w (.int .i64 (qj a b))):=by
 cases a<;>cases b;all_goals go_enter Tryz.func196,Tryz.ntmps196;go_wp2_with fail;go_ret;exact⟨rfl,rfl⟩
def zB(x y:Int):Int:=if x=0 then y else x
theorem x8(x y:Int)(b:Nat)(c:Nat)(w:World)(h0:w.cell? ⟨b,0,none⟩=some (.int .i64 x))(h1:w.cell? ⟨b,1,none⟩=some (.int .i64 y)):Calls Tryz.prog 98 #[.slice (some ⟨b,0,none⟩) 2 c] w (j2 w (.int .i64 (zB x y))):=by
 obtain⟨r,hr⟩: ∃r,r=zB x y:=⟨_,rfl⟩;rw[←hr];unfold zB at hr;by_cases hx:x=0
 ·subst hx;rw[if_pos rfl] at hr;subst hr;by_cases hy:r=0
  ·subst hy;go_enter Tryz.func98,Tryz.ntmps98;go_wp2_with fail;go_loopg[8] 2 (fun gk i wr=> ∃k:Nat,k≤2∧i=.int .i64 (k:Int)∧gk=2-k∧wr=w);case atStart=>exact⟨0,by omega,rfl,by omega,rfl⟩
   case round=>
    obtain⟨k,hk,rfl,rfl,rfl⟩:=hrel;have hk3:k=0∨k=1∨k=2:=by omega
    clear hk;rcases hk3 with rfl|rfl|rfl
    ·go_wp2_with fail;go_roundg 1;case measure=>omega
     case rel=>exact⟨1,by omega,rfl,rfl,rfl⟩
    ·go_wp2_with fail;go_roundg 0;case measure=>omega
     case rel=>exact⟨2,by omega,rfl,rfl,rfl⟩
    ·go_wp2_with fail;go_ret;exact⟨rfl,rfl⟩
  ·have hyb:(r != 0)=true:=by simpa using hy
   clear hy;go_enter Tryz.func98,Tryz.ntmps98;go_wp2_with fail;go_loopg[8] 2 (fun gk i wr=> ∃k:Nat,k≤1∧i=.int .i64 (k:Int)∧gk=2-k∧wr=w);case atStart=>exact⟨0,by omega,rfl,by omega,rfl⟩
   case round=>
    obtain⟨k,hk,rfl,rfl,rfl⟩:=hrel;have hk3:k=0∨k=1:=by omega
    clear hk;rcases hk3 with rfl|rfl
    ·go_wp2_with fail;go_roundg 1;case measure=>omega
     case rel=>exact⟨1,by omega,rfl,rfl,rfl⟩
    ·go_wp2_with fail;go_ret;exact⟨rfl,rfl⟩
 ·rw[if_neg hx] at hr;subst hr;have hxb:(r != 0)=true:=by simpa using hx
  clear hx;go_enter Tryz.func98,Tryz.ntmps98;go_wp2_with fail;go_loopg[8] 2 (fun gk i wr=>i=.int .i64 0∧gk=2∧wr=w);case atStart=>exact⟨rfl,rfl,rfl⟩
  case round=>obtain⟨rfl,rfl,rfl⟩:=hrel;go_wp2_with fail;go_ret;exact⟨rfl,rfl⟩
def fp(a b:ag):Int:=zB (qj (cW a.p b.p) (cW b.p a.p)) (Lib.compareInt a.kind b.kind)
theorem cM(a b:ag)(A A':Option Addr)(c c':Nat)(w:World)(hA:SA w a.p A c)(hB:SA w b.p A' c'):Calls Tryz.prog 157 #[.agg #[.int .i64 a.kind,.slice A a.p.length c],.agg #[.int .i64 b.kind,.slice A' b.p.length c']] w (bN w (.int .i64 (fp a b))):=by
 have B0:=Ad (ab (ab (ae w) (.cells #[.int .i64 a.kind,.slice A a.p.length c] 62)) (.cells #[.int .i64 b.kind,.slice A' b.p.length c'] 62));have P0:=Ad ((aj.new w 62 #[.int .i64 a.kind,.slice A a.p.length c]).alloc (.cells #[.int .i64 b.kind,.slice A' b.p.length c'] 62));have P1:=Ad (aj.at (w:=w.alloc (.cells #[.int .i64 a.kind,.slice A a.p.length c] 62)) (g:=w.heap.size+1) (t:=62) (cs:=#[.int .i64 b.kind,.slice A' b.p.length c']) (by simp));have E:=Ad (Ac (hA.below B0.out) (hB.below B0.out));clear hA hB;obtain⟨r,hr⟩: ∃r,r=fp a b:=⟨_,rfl⟩;rw[←hr];have HR:=Ad hr;clear hr;go_enter Tryz.func157,Tryz.ntmps157;go_wp2_with fail;go_region_held3(fun u=>u.cell? ⟨w.heap.size,0,none⟩=some (.int .i64 a.kind)∧u.cell? ⟨w.heap.size,1,none⟩=some (.slice A a.p.length c)∧u.cell? ⟨w.heap.size+1,0,none⟩=some (.int .i64 b.kind)∧u.cell? ⟨w.heap.size+1,1,none⟩=some (.slice A' b.p.length c')) (go_keep) (first|(go_at_call 215;(have hfirst:=HQ1.out;clear hfirst;refine(gU b.p a.p A' A c' c _ (by first|exact E.out.2.drewN _|exact(E.out.2.drewN _).drewN _|exact(E.out.2.drew).drewN _) (by first|exact E.out.1.drewN _|exact(E.out.1.drewN _).drewN _|exact(E.out.1.drew).drewN _)).mono ?_;rintro e w2 ⟨rfl,nq2,rfl⟩;have HQ2:=Ad True.intro))|(go_at_call 215;(refine(gU a.p b.p A A' c c' _ (by first|exact E.out.1.drew|exact E.out.1|exact E.out.1.drewN _) (by first|exact E.out.2.drew|exact E.out.2|exact E.out.2.drewN _)).mono ?_;rintro e w1 ⟨rfl,nq1,rfl⟩;have HQ1:=Ad True.intro))|(go_at_call 196;(refine(oB _ _ _).mono ?_;rintro e w3 ⟨rfl,rfl⟩))|(go_at_call 99;(refine(Tryz.cmp_Compare_int _ _ _).mono ?_;rintro e w4 ⟨rfl,rfl⟩))|(go_at_call 98;(refine(x8 (qj (cW a.p b.p) (cW b.p a.p)) (Lib.compareInt a.kind b.kind) _ _ _ (by first|exact(aj.new _ _ _).cell 0|exact(aj.at (by simp)).cell 0) (by first|exact(aj.new _ _ _).cell 1|exact(aj.at (by simp)).cell 1)).mono ?_;rintro e w5 ⟨rfl,rfl⟩)));all_goals go_wp2_with fail;go_ret;exact⟨by rw[HR.out];rfl,by first|exact ab (below_drewN B0.out _) _|exact ab (below_drewN (below_drewN B0.out _) _) _⟩
section
theorem oV(x y:Int):Lib.compareInt x y<0↔x<y:=by
 unfold Lib.compareInt;split;·rename_i h;simp[h]
 ·split;·rename_i h1 h2;simp;omega
  ·rename_i h1 h2;simp;omega
theorem ib(a b:ag):decide (fp a b<0)=an a b:=by
 unfold fp zB qj an;by_cases e:a.p=b.p;·rw[if_pos e,e,eP.irr];simp only[Bool.false_eq_true,if_false,if_true];rw[Bool.eq_iff_iff,decide_eq_true_iff,decide_eq_true_iff,oV]
 ·rw[if_neg e];rcases eP.tot _ _ e with h|h;·rw[h];simp
  ·rw[eP.td _ _ h,h];simp
theorem vp{α:Type}(P R:List α)(x y:α):((P++y::x::R).set (P.length+1) y).set P.length x=P++x::y::R:=by
 rw[List.set_append_right _ _ (by omega),List.set_append_right _ _ (by omega)];simp
theorem kM{α:Type}(P R:List α)(x y:α)(h:P.length<(P++y::x::R).length):(P++y::x::R)[P.length]=y:=by
 simp
theorem kz{α:Type}(P R:List α)(x y:α)(h:P.length+1<(P++y::x::R).length):(P++y::x::R)[P.length+1]=x:=by
 rw[List.getElem_append_right (by omega)];simp
section
variable {α : Type} [aE α]
theorem aA.stored{w:World}{base:Nat}{t:TypeId}{g n c:Nat}{l:List α}{S:Nat→Prop}(h:aA w base t (.slice (some ⟨g,0,none⟩) n c) l S){i:Nat}(hi:i<l.length){a:α}{cs:List Value}(hr:RS w S a cs)(hg: ∀b,S b→b≠g):aA (bn w g (i*aE.wd α) cs) base t (.slice (some ⟨g,0,none⟩) n c) (l.set i a) S:=by
 obtain⟨F,h1,h2⟩:=h;obtain⟨F',h3,h4⟩:=hr;obtain⟨F1,F2,F3,hF,h5⟩:=h1.stored hi h3 (fun hm=>hg g (h4 g hm) rfl);subst hF;refine⟨_,h5,fun b hb=> ?_⟩;simp only[List.mem_append] at hb;rcases hb with hb|hb|hb;·exact h2 b (by simp[hb])
 ·exact h4 b hb
 ·exact h2 b (by simp[hb])
end
def bk(base:Nat)(w:World)(g c:Nat)(l:List ag):Prop:=aA w base 62 (.slice (some ⟨g,0,none⟩) l.length c) l (fun b=>(b≠g∧base≤b)∧b<w.heap.size)
theorem bk.below{base:Nat}{w w':World}{g c:Nat}{l:List ag}(h:bk base w g c l)(hb:Below w.heap.size w w'):bk base w' g c l:=aA.mono (aA.ak h hb fun b hb=>hb.2) fun b h=>⟨h.1,Nat.lt_of_lt_of_le h.2 hb.size⟩
theorem bk.lt{base:Nat}{w:World}{g c:Nat}{l:List ag}(h:bk base w g c l):g<w.heap.size:=(aA.aq h g rfl).2
theorem bk.sb{base:Nat}{w:World}{g c:Nat}{l:List ag}(h:bk base w g c l):SB base w l (some ⟨g,0,none⟩) c:=by
 have hlt:=aA.aq h g rfl;obtain⟨_,h2⟩:=aA.ss h w (fun b=>base≤b∧b<w.heap.size) (fun _ _=>rfl) (fun b hb=>by rcases hb with hb|hb;(·simp only[Value.ownBlock,Option.some.injEq] at hb;exact⟨by omega,by omega⟩);·exact⟨hb.1.2,hb.2⟩);exact h2
theorem bk.swap{base:Nat}{w:World}{g c:Nat}{P R:List ag}{x y:ag}{Ax Ay:Option Addr}{cx cy:Nat}(h:bk base w g c (P++y::x::R))(hx:RS w (fun b=>(b≠g∧base≤b)∧b<w.heap.size) x [.int .i64 x.kind,.slice Ax x.p.length cx])(hy:RS w (fun b=>(b≠g∧base≤b)∧b<w.heap.size) y [.int .i64 y.kind,.slice Ay y.p.length cy]):bk base (bn (bn w g ((P.length+1)*2) [.int .i64 y.kind,.slice Ay y.p.length cy]) g (P.length*2) [.int .i64 x.kind,.slice Ax x.p.length cx]) g c (P++x::y::R):=by
 have hlen:(P++y::x::R).length=(P++x::y::R).length:=by simp
 have h1:=aA.stored (i:=P.length+1) h (by simp) hy (fun b hb=>hb.1.1);have hk: ∀b,((b≠g∧base≤b)∧b<w.heap.size)→(bn w g ((P.length+1)*2) [.int .i64 y.kind,.slice Ay y.p.length cy]).heap[b]? =w.heap[b]? :=fun b hb=>bw g _ w _ b hb.1.1;have hx':RS (bn w g ((P.length+1)*2) [.int .i64 y.kind,.slice Ay y.p.length cy]) (fun b=>(b≠g∧base≤b)∧b<w.heap.size) x [.int .i64 x.kind,.slice Ax x.p.length cx]:=RS.ak hx hk (fun b hb=>hb);have h2:=aA.stored (i:=P.length) h1 (by simp) hx' (fun b hb=>hb.1.1);rw[vp] at h2;rw[hlen] at h2;exact aA.mono h2 fun b hb=>⟨hb.1,by rw[cl,cl];exact hb.2⟩
theorem bk.at{base:Nat}{w:World}{g c:Nat}{l:List ag}(h:bk base w g c l){i:Nat}(hi:i<l.length): ∃A' c',RS w (fun b=>(b≠g∧base≤b)∧b<w.heap.size) l[i] [.int .i64 l[i].kind,.slice A' l[i].p.length c']∧SA w l[i].p A' c'∧w.cell? ⟨g,i*2,none⟩=some (.int .i64 l[i].kind)∧w.cell? ⟨g,i*2+1,none⟩=some (.slice A' l[i].p.length c'):=by
 obtain⟨F,h1,h2⟩:=h;obtain⟨F',cs,hr,hs,hc⟩:=h1.at hi;obtain⟨A',c',rfl,hI,hsl⟩:=hr;exact⟨A',c',⟨F',⟨A',c',rfl,hI,hsl⟩,fun b hb=>h2 b (hs b hb)⟩,⟨F',hsl,fun b hb=>(h2 b (hs b hb)).2⟩,hc.c0,hc.c1⟩
theorem bk.facts{base:Nat}{w:World}{g c:Nat}{l:List ag}(h:bk base w g c l){i:Nat}(hi:i<l.length):w.frozen? ⟨g,i*2,none⟩=false∧w.frozen? ⟨g,i*2+1,none⟩=false:=by
 obtain⟨F,h1,h2⟩:=h;have f0:=(h1.facts hi (show 0<aE.wd ag by decide)).2;have f1:=(h1.facts hi (show 1<aE.wd ag by decide)).2;exact⟨f0,f1⟩
def ey(T q D:List ag)(x:ag)(m:Nat):List ag:=T++(q.take m++x::q.drop m)++D
theorem jA(T q D:List ag)(x:ag){m:Nat}(h:m<q.length):ey T q D x (m+1)=(T++q.take m)++q[m]::x::(q.drop (m+1)++D):=by
 unfold ey;rw[List.take_succ_eq_append_getElem h];simp only[List.append_assoc,List.cons_append,List.nil_append,List.singleton_append]
theorem lO(T q D:List ag)(x:ag){m:Nat}(h:m<q.length):(T++q.take m)++x::q[m]::(q.drop (m+1)++D)=ey T q D x m:=by
 unfold ey;rw[List.drop_eq_getElem_cons h];simp only[List.append_assoc,List.cons_append,List.nil_append,List.singleton_append]
theorem eh(w:World)(g off:Nat)(cs:List Value):Kept [g] w (bn w g off cs):=by
 have h:=ji g cs w off;exact⟨h.1,h.2.1,h.2.2,by rw[cl];omega,fun b _ hb=>bw g cs w off b (by simpa using hb)⟩
theorem mK(l:List ag)(a b:Nat)(hab:a<b)(hb:b≤l.length)(hl:l.length≤1048576)(base g c:Nat)(w:World)(h:bk base w g c l)(hcf: ∀(a:Array Value)(w:World),(callFunc 157 a).run Tryz.prog w=.ok (.enter 157 a) w):Calls Tryz.prog 253 #[.slice (some ⟨g,0,none⟩) l.length c,.int .i64 (a:Int),.int .i64 (b:Int),.func (.func 157) #[] #[]] w (fun e w'=>e=.returned (.tuple #[])∧bk base w' g c (l.take a++ao an [] ((l.drop a).take (b-a))++l.drop b)∧Kept [g] w w'):=by
 have HR:=Ad h;clear h;have ha1:IntKind.i64.wrap ((a:Int)+1)=((a+1:Nat):Int):=by rw[IntKind.wrap_i64];omega
 have hcfg1:l.take a++ao an [] ((l.drop a).take (a+1-a))++l.drop (a+1)=l:=by rw[show a+1-a=1 by omega,List.drop_eq_getElem_cons (show a<l.length by omega)];simp only[List.take_succ_cons,List.take_zero,ao,ca,cI,List.reverse_nil,List.reverse_cons,List.nil_append];rw[List.append_assoc,List.singleton_append,←List.drop_eq_getElem_cons (show a<l.length by omega),List.take_append_drop]
 have HC:=Ad hcfg1;clear hcfg1;go_enter Tryz.func253,Tryz.ntmps253;go_wp2_with fail;go_loopg[8] (b-(a+1)) (fun gk s8 wr=> ∃i:Nat,s8=.int .i64 (i:Int)∧a<i∧i≤b∧gk=b-i∧bk base wr g c (l.take a++ao an [] ((l.drop a).take (i-a))++l.drop i)∧Kept [g] w wr);case atStart=>exact⟨a+1,by first|rfl|go_num,by omega,by omega,rfl,by rw[HC.out];exact HR.out,Kept.refl _ _⟩
 case round=>
  obtain⟨i,rfl,hai,hib,rfl,hrow,hkept⟩:=hrel;by_cases hlt:i<b
  ·have hil:i<l.length:=by omega
   obtain⟨q,hq⟩: ∃q,q=ao an [] ((l.drop a).take (i-a)):=⟨_,rfl⟩;obtain⟨x,hx⟩: ∃x,x=l[i]:=⟨_,rfl⟩;obtain⟨T,hT⟩: ∃T,T=l.take a:=⟨_,rfl⟩;obtain⟨D,hD⟩: ∃D,D=l.drop (i+1):=⟨_,rfl⟩;have hql:q.length=i-a:=by rw[hq,eZ,List.length_take,List.length_drop];omega
   have hTl:T.length=a:=by rw[hT,List.length_take];omega
   have hrow0:bk base wr g c (ey T q D x q.length):=by(have e:ey T q D x q.length=l.take a++ao an [] ((l.drop a).take (i-a))++l.drop i:=by unfold ey;rw[List.take_length,List.drop_length,←hq,←hT,hD,hx,List.drop_eq_getElem_cons hil];simp);rw[e];exact hrow
   have hnext: ∀m,ey T q D x m=l.take a++(q.take m++[x]++q.drop m)++l.drop (i+1):=fun m=>by unfold ey;rw[hT,hD];simp
   have hins:ao an [] ((l.drop a).take (i+1-a))=ca an q x:=by(have h1:i-a<(l.drop a).length:=by rw[List.length_drop];omega);rw[show i+1-a=i-a+1 by omega,List.take_succ_eq_append_getElem h1,fq,←hq,hx];congr 1;rw[List.getElem_drop];congr 1;omega
   have hlenc: ∀m,m≤q.length→(ey T q D x m).length=l.length:=fun m hm=>by rw[hnext m];simp only[List.length_append,List.length_take,List.length_drop,List.length_singleton];omega
   have HF:=Ad (Ac hq (Ac hnext (Ac hins (Ac hql (Ac hTl hlenc)))));clear hq hnext hins hx hT hD hTl hlenc;have HK:=Ad (Ac hrow0 hkept);clear hrow hrow0 hkept;have HL:=Ad hql;clear hql;have hi1:(i:Int)<b:=by omega
   go_wp2_with fail;rename World=>wo;go_loopg[9] q.length (fun gk s9 wx=>s9=.int .i64 ((a+gk:Nat):Int)∧gk≤q.length∧Hid (∀k(h:k<q.length),gk≤k→an x q[k]=true)∧bk base wx g c (ey T q D x gk)∧Kept [g] w wx);case atStart=>exact⟨by rw[HL.out,show a+(i-a)=i by omega],by omega,fun k h h2=>by omega,HK.out.1,HK.out.2⟩
   case round=>
    obtain⟨rfl,hgk,hLt,hrow,hkept⟩:=hrel;rcases Nat.eq_zero_or_pos gk with rfl|hpos
    ·have hend:ey T q D x 0=l.take a++ao an [] ((l.drop a).take (i+1-a))++l.drop (i+1):=by rw[HF.out.2.1,HF.out.2.2.1,cP an x _ q 0 rfl (by omega) (fun k h _=>hLt.out k h (by omega)) (fun h h0=>by omega)]
     rw[hend] at hrow;have HW:=Ad (Ac hrow hkept);clear hLt hrow hkept hend;have hj0: ¬((a:Int)<(a:Int)):=by omega
     go_wp2_with fail;go_quiet(fail);go_wp2_with fail;go_roundg(b-(i+1));case measure=>omega
     case rel=>exact⟨i+1,by first|rfl|go_num,by omega,by omega,rfl,by first|exact HW.out.1|exact HW.out.1.below (below_drewN (ae _) _),by first|exact HW.out.2|exact HW.out.2.trans (Kept.az (below_drewN (ae _) _))⟩
    ·obtain⟨m,rfl⟩: ∃m,gk=m+1:=⟨gk-1,by omega⟩;have hm:m<q.length:=by omega
     have hlc:=HF.out.2.2.2.2.2 (m+1) (by omega);rw[jA T q D x hm] at hrow hlc;obtain⟨y,hy⟩: ∃y,y=q[m]:=⟨_,rfl⟩;rw[←hy] at hrow hlc;obtain⟨P,hP⟩: ∃P,P=T++q.take m:=⟨_,rfl⟩;obtain⟨R,hR⟩: ∃R,R=q.drop (m+1)++D:=⟨_,rfl⟩;rw[←hP,←hR] at hrow hlc;obtain⟨K,hK⟩: ∃K,K=a+m:=⟨_,rfl⟩;have hPl:P.length=K:=by rw[hP,hK,List.length_append,List.length_take,HF.out.2.2.2.2.1];omega
     obtain⟨Ax,cx,hRx,hSx,x0,x1⟩:=hrow.at (i:=P.length+1) (by simp);obtain⟨Ay,cy,hRy,hSy,y0,y1⟩:=hrow.at (i:=P.length) (by simp);have fx:=hrow.facts (i:=P.length+1) (by simp);have fy:=hrow.facts (i:=P.length) (by simp);rw[kz] at hRx hSx x0 x1;rw[kM] at hRy hSy y0 y1;have hKl:K+1<l.length:=by rw[←hlc,←hPl];simp
     rw[hPl] at x0 x1 y0 y1 fx fy;obtain⟨fx0,fx1⟩:=fx;obtain⟨fy0,fy1⟩:=fy;obtain⟨r,hr⟩: ∃r,r=fp x y:=⟨_,rfl⟩;have hlt2:=ib x y;rw[←hr] at hlt2;have hgl:=hrow.lt;have HX:=Ad (Ac hr (Ac hlt2 (Ac hPl (Ac hK (Ac hP (Ac hR hy))))));clear hr hlt2 hPl hP hR hy hlc;have HS:=Ad (Ac hSx (Ac hSy (Ac hRx hRy)));clear hSx hSy hRx hRy;have HW:=Ad (Ac hLt (Ac hrow hkept));clear hLt hrow hkept;have hk1:(a:Int)<(K:Int)+1:=by omega
     have hk2:IntKind.i64.wrap ((K:Int)+1-1)=(K:Int):=by rw[IntKind.wrap_i64];omega
     have hk6:IntKind.i64.wrap (K:Int)=(K:Int):=by rw[IntKind.wrap_i64];omega
     have hk3:(K:Int)+1<l.length:=by omega
     have hk3':(K:Int)<l.length:=by omega
     have hk4:(0:Int)≤K:=by omega
     have hk5:(0:Int)≤(K:Int)+1:=by omega
     have hk7:((K:Int)+1).toNat=K+1:=by omega
     rw[show a+(m+1)=K+1 by omega];clear hK;by_cases hneg:r<0
     ·go_wp2_with fail;go_region_held3(fun u=>u.cell? ⟨g,(K+1)*2,none⟩=some (.int .i64 x.kind)∧u.cell? ⟨g,(K+1)*2+1,none⟩=some (.slice Ax x.p.length cx)∧u.cell? ⟨g,K*2,none⟩=some (.int .i64 y.kind)∧u.cell? ⟨g,K*2+1,none⟩=some (.slice Ay y.p.length cy)) (go_keep) (first|(go_at_call 157;(refine(cM x y Ax Ay cx cy _ (by first|exact HS.out.1|exact HS.out.1.drew) (by first|exact HS.out.2.1|exact HS.out.2.1.drew)).mono ?_;rintro e w3 ⟨rfl,hb3⟩;rw[←HX.out.1];have HB3:=Ad (Ac (show Below wr.heap.size wr w3 from(by first|exact hb3|exact ai (ae wr).drew hb3)) True.intro);have zx0:=(HB3.out.1.cell (p:=⟨g,_,none⟩) hgl).trans x0;have zx1:=(HB3.out.1.cell (p:=⟨g,_,none⟩) hgl).trans x1;have zy0:=(HB3.out.1.cell (p:=⟨g,_,none⟩) hgl).trans y0;have zy1:=(HB3.out.1.cell (p:=⟨g,_,none⟩) hgl).trans y1;have gx0:=(HB3.out.1.frozen (p:=⟨g,_,none⟩) hgl).trans fx0;have gx1:=(HB3.out.1.frozen (p:=⟨g,_,none⟩) hgl).trans fx1;have gy0:=(HB3.out.1.frozen (p:=⟨g,_,none⟩) hgl).trans fy0;have gy1:=(HB3.out.1.frozen (p:=⟨g,_,none⟩) hgl).trans fy1;clear hb3)))
      all_goals
       go_wp2_with fail;go_region_law(fail)
       all_goals
        go_wp2_with fail;go_roundg m;case measure=>omega
        case rel=>
         have hwx:RS w3 (fun b=>(b≠g∧base≤b)∧b<w3.heap.size) x [.int .i64 x.kind,.slice Ax x.p.length cx]:=RS.ak HS.out.2.2.1 (fun b hb=>HB3.out.1.block b hb.2) (fun b hb=>⟨hb.1,Nat.lt_of_lt_of_le hb.2 HB3.out.1.size⟩);have hwy:RS w3 (fun b=>(b≠g∧base≤b)∧b<w3.heap.size) y [.int .i64 y.kind,.slice Ay y.p.length cy]:=RS.ak HS.out.2.2.2 (fun b hb=>HB3.out.1.block b hb.2) (fun b hb=>⟨hb.1,Nat.lt_of_lt_of_le hb.2 HB3.out.1.size⟩);have hsw:=bk.swap (HW.out.2.1.below HB3.out.1) hwx hwy;rw[HX.out.2.2.1] at hsw;have e:=lO T q D x hm;rw[←HX.out.2.2.2.2.2.2,←HX.out.2.2.2.2.1,←HX.out.2.2.2.2.2.1] at e;rw[e] at hsw;refine⟨by rw[←HX.out.2.2.2.1]<;>first|rfl|go_num,by omega,fun k h hk=> ?_,bk.below hsw (ae _).drew,(HW.out.2.2.trans ((Kept.az HB3.out.1).trans ((eh w3 g ((K+1)*2) [.int .i64 y.kind,.slice Ay y.p.length cy]).trans (eh _ g (K*2) [.int .i64 x.kind,.slice Ax x.p.length cx])))).trans (Kept.az (ae _).drew)⟩;rcases Nat.lt_or_ge m k with h7|h7;·exact HW.out.1.out k h (by omega)
         ·have h8:k=m:=by omega
          subst h8;rw[←HX.out.2.2.2.2.2.2,←HX.out.2.1];exact decide_eq_true hneg
     ·go_wp2_with fail;go_region_held3(fun u=>u.cell? ⟨g,(K+1)*2,none⟩=some (.int .i64 x.kind)∧u.cell? ⟨g,(K+1)*2+1,none⟩=some (.slice Ax x.p.length cx)∧u.cell? ⟨g,K*2,none⟩=some (.int .i64 y.kind)∧u.cell? ⟨g,K*2+1,none⟩=some (.slice Ay y.p.length cy)) (go_keep) (first|(go_at_call 157;(refine(cM x y Ax Ay cx cy _ (by first|exact HS.out.1|exact HS.out.1.drew) (by first|exact HS.out.2.1|exact HS.out.2.1.drew)).mono ?_;rintro e w3 ⟨rfl,hb3⟩;rw[←HX.out.1];have HB3:=Ad (Ac (show Below wr.heap.size wr w3 from(by first|exact hb3|exact ai (ae wr).drew hb3)) True.intro);have zx0:=(HB3.out.1.cell (p:=⟨g,_,none⟩) hgl).trans x0;have zx1:=(HB3.out.1.cell (p:=⟨g,_,none⟩) hgl).trans x1;have zy0:=(HB3.out.1.cell (p:=⟨g,_,none⟩) hgl).trans y0;have zy1:=(HB3.out.1.cell (p:=⟨g,_,none⟩) hgl).trans y1;have gx0:=(HB3.out.1.frozen (p:=⟨g,_,none⟩) hgl).trans fx0;have gx1:=(HB3.out.1.frozen (p:=⟨g,_,none⟩) hgl).trans fx1;have gy0:=(HB3.out.1.frozen (p:=⟨g,_,none⟩) hgl).trans fy0;have gy1:=(HB3.out.1.frozen (p:=⟨g,_,none⟩) hgl).trans fy1;clear hb3)))
      all_goals
       go_wp2_with fail;go_roundg(b-(i+1));case measure=>omega
       case rel=>
        refine⟨i+1,by first|rfl|go_num,by omega,by omega,rfl,?_,HW.out.2.2.trans (Kept.az HB3.out.1)⟩;have hend:P++y::x::R=l.take a++ao an [] ((l.drop a).take (i+1-a))++l.drop (i+1):=by have h1:=jA T q D x hm;rw[←HX.out.2.2.2.2.2.2,←HX.out.2.2.2.2.1,←HX.out.2.2.2.2.2.1] at h1;rw[←h1,HF.out.2.1,HF.out.2.2.1,cP an x _ q (m+1) rfl (by omega) (fun k h hk=>HW.out.1.out k h hk) (fun h h0=>by simp only[Nat.add_sub_cancel];rw[←HX.out.2.2.2.2.2.2,←HX.out.2.1];simp;omega)]
        rw[←hend];exact HW.out.2.1.below HB3.out.1
  ·have e:i=b:=by omega
   rw[e] at hrow;have HW:=Ad (Ac hrow hkept);clear hrow hkept e;have hi2: ¬(i:Int)<b:=by omega
   go_wp2_with fail;refine bodyPost_end (v:=.tuple #[]) (by simp[results,Tryz.results253,go_sem]) rfl ?_;exact⟨rfl,by have h:=HW.out.1;rwa[List.append_assoc] at h,HW.out.2⟩
end
def kq(l:List ag)(i j:Nat):List ag:=(l.set i (l.getD j default)).set j (l.getD i default)
def mj(l:List ag)(a b:Nat):Nat→List ag|0=>l|n+1=>kq (mj l a b n) (a+n) (b+n)
theorem rW(l:List ag)(i j:Nat):(kq l i j).length=l.length:=by
 simp[kq]
theorem ll(l:List ag)(a b:Nat): ∀n,(mj l a b n).length=l.length|0=>rfl|n+1=>by rw[mj,rW,ll l a b n]
theorem bk.yD{base:Nat}{w:World}{g c:Nat}{l:List ag}{i j:Nat}(h:bk base w g c l)(hi:i<l.length)(hj:j<l.length){Ax Ay:Option Addr}{cx cy:Nat}(hx:RS w (fun b=>(b≠g∧base≤b)∧b<w.heap.size) l[i] [.int .i64 l[i].kind,.slice Ax l[i].p.length cx])(hy:RS w (fun b=>(b≠g∧base≤b)∧b<w.heap.size) l[j] [.int .i64 l[j].kind,.slice Ay l[j].p.length cy]):bk base (bn (bn w g (i*2) [.int .i64 l[j].kind,.slice Ay l[j].p.length cy]) g (j*2) [.int .i64 l[i].kind,.slice Ax l[i].p.length cx]) g c (kq l i j):=by
 have h1:=aA.stored (i:=i) h hi hy (fun b hb=>hb.1.1);have hk: ∀b,((b≠g∧base≤b)∧b<w.heap.size)→(bn w g (i*2) [.int .i64 l[j].kind,.slice Ay l[j].p.length cy]).heap[b]? =w.heap[b]? :=fun b hb=>bw g _ w _ b hb.1.1;have hx':RS (bn w g (i*2) [.int .i64 l[j].kind,.slice Ay l[j].p.length cy]) (fun b=>(b≠g∧base≤b)∧b<w.heap.size) l[i] [.int .i64 l[i].kind,.slice Ax l[i].p.length cx]:=RS.ak hx hk (fun b hb=>hb);have h2:=aA.stored (i:=j) h1 (by simpa using hj) hx' (fun b hb=>hb.1.1);have e:(l.set i l[j]).set j l[i]=kq l i j:=by unfold kq;rw[List.getD_eq_getElem?_getD,List.getD_eq_getElem?_getD,List.getElem?_eq_getElem hi,List.getElem?_eq_getElem hj];rfl
 rw[e] at h2;have hlen:=rW l i j;unfold bk;rw[hlen];exact aA.mono h2 fun b hb=>⟨hb.1,by rw[cl,cl];exact hb.2⟩
theorem gC(l:List ag)(a b n:Nat)(ha:a+n≤b)(hb:b+n≤l.length)(hl:l.length≤1048576)(f:Value)(base g c:Nat)(w:World)(h:bk base w g c l):Calls Tryz.prog 326 #[.slice (some ⟨g,0,none⟩) l.length c,.int .i64 (a:Int),.int .i64 (b:Int),.int .i64 (n:Int),f] w (fun e w'=>e=.returned (.tuple #[])∧bk base w' g c (mj l a b n)∧Kept [g] w w'):=by
 have HR:=Ad h;clear h;go_enter Tryz.func326,Tryz.ntmps326;go_wp2_with fail;go_loopg[10] n (fun gk s10 wr=> ∃i:Nat,s10=.int .i64 (i:Int)∧i≤n∧gk=n-i∧bk base wr g c (mj l a b i)∧Kept [g] w wr);case atStart=>exact⟨0,rfl,by omega,rfl,HR.out,Kept.refl _ _⟩
 case round=>
  obtain⟨i,rfl,hi,rfl,hrow,hkept⟩:=hrel;by_cases hlt:i<n
  ·obtain⟨L,hL⟩: ∃L,L=mj l a b i:=⟨_,rfl⟩;have hLl:L.length=l.length:=by rw[hL,ll]
   rw[←hL] at hrow;obtain⟨I,hI⟩: ∃I,I=a+i:=⟨_,rfl⟩;obtain⟨J,hJ⟩: ∃J,J=b+i:=⟨_,rfl⟩;have hIl:I<L.length:=by omega
   have hJl:J<L.length:=by omega
   obtain⟨Ax,cx,hRx,hSx,x0,x1⟩:=hrow.at hIl;obtain⟨Ay,cy,hRy,hSy,y0,y1⟩:=hrow.at hJl;obtain⟨fx0,fx1⟩:=hrow.facts hIl;obtain⟨fy0,fy1⟩:=hrow.facts hJl;have hsw:=hrow.yD hIl hJl hRx hRy;have hsn:kq L I J=mj l a b (i+1):=by rw[mj,←hL,←hI,←hJ]
   rw[hsn] at hsw;obtain⟨X,hX⟩: ∃X,X=L[I]:=⟨_,rfl⟩;obtain⟨Y,hY⟩: ∃Y,Y=L[J]:=⟨_,rfl⟩;rw[←hX,←hY] at hsw;rw[←hX] at x0 x1;rw[←hY] at y0 y1;have HS:=Ad (Ac hsw hkept);have hw1:IntKind.i64.wrap ((a:Int)+(i:Int))=(I:Int):=by rw[IntKind.wrap_i64];omega
   have hw2:IntKind.i64.wrap ((b:Int)+(i:Int))=(J:Int):=by rw[IntKind.wrap_i64];omega
   have hk1:(0:Int)≤I:=by omega
   have hk2:(0:Int)≤J:=by omega
   have hk3:(I:Int)<l.length:=by omega
   have hk4:(J:Int)<l.length:=by omega
   have hi1:(i:Int)<n:=by omega
   have hne1:I*2≠J*2:=by omega
   have hne2:J*2≠I*2:=by omega
   have hne3:I*2+1≠J*2:=by omega
   have hne4:J*2≠I*2+1:=by omega
   have hne5:I*2≠J*2+1:=by omega
   have hne6:J*2+1≠I*2:=by omega
   have hne7:I≠J:=by omega
   have hne8:J≠I:=by omega
   clear hSx hSy hsw hkept hrow hRx hRy hsn hL hLl hX hY hI hJ hIl hJl;go_wp2_with fail;go_region_law(fail)
   all_goals
    go_wp2_with fail;go_roundg(n-(i+1));case measure=>omega
    case rel=>exact⟨i+1,by first|rfl|go_num,by omega,rfl,bk.below HS.out.1 (ae _).drew,(HS.out.2.trans ((eh _ g (I*2) [.int .i64 Y.kind,.slice Ay Y.p.length cy]).trans (eh _ g (J*2) [.int .i64 X.kind,.slice Ax X.p.length cx]))).trans (Kept.az (ae _).drew)⟩
  ·have e:i=n:=by omega
   rw[e] at hrow;have HW:=Ad (Ac hrow hkept);clear hrow hkept e;have hi2: ¬(i:Int)<n:=by omega
   go_wp2_with fail;refine bodyPost_end (v:=.tuple #[]) (by simp[results,Tryz.results326,go_sem]) rfl ?_;exact⟨rfl,HW.out.1,HW.out.2⟩
section
theorem gW{A B:List ag}{x:ag}{i:Nat}(h:A.length=i):(A++x::B).getD i default=x:=by
 subst h;simp
theorem nA{A B:List ag}{x y:ag}{i:Nat}(h:A.length=i):(A++x::B).set i y=A++y::B:=by
 subst h;simp
theorem sq{A B C:List ag}{x y:ag}{i j:Nat}(hi:A.length=i)(hj:(A++x::B).length=j):kq (A++x::B++y::C) i j=A++y::B++x::C:=by
 unfold kq;rw[gW hj,show A++x::B++y::C=A++x::(B++y::C) by simp,gW hi,nA hi];rw[show A++y::(B++y::C)=(A++y::B)++y::C by simp,nA (by rw[←hj];simp)]
theorem vn{A C:List ag}{x y:ag}{i j:Nat}(hi:A.length=i)(hj:j=i+1):kq (A++x::y::C) i j=A++y::x::C:=by
 have h:=sq (B:=[]) (C:=C) (x:=x) (y:=y) hi (j:=j) (by simp[hj,hi]);simpa using h
theorem yq{A C:List ag}{x y:ag}{i j:Nat}(hi:A.length=i)(hj:j=i+1):kq (A++x::y::C) j i=A++y::x::C:=by
 unfold kq;rw[gW hi,show A++x::y::C=(A++[x])++y::C by simp,gW (by simp[hj,hi]),nA (by simp[hj,hi])];rw[show(A++[x])++x::C=A++x::x::C by simp,nA hi]
theorem gA: ∀(n:Nat)(P X M Y S:List ag)(a b:Nat),X.length=n→Y.length=n→P.length=a→P.length+n+M.length=b→mj (P++X++M++Y++S) a b n=P++Y++M++X++S|0,P,X,M,Y,S,a,b,hX,hY,ha,hb=>by rw[List.length_eq_zero_iff.1 hX,List.length_eq_zero_iff.1 hY];rfl|n+1,P,X,M,Y,S,a,b,hX,hY,ha,hb=>by(have hx:X≠[]:=by intro e;rw[e] at hX;simp at hX);(have hy:Y≠[]:=by intro e;rw[e] at hY;simp at hY);obtain⟨X0,x,rfl⟩: ∃X0 x,X=X0++[x]:=⟨X.dropLast,X.getLast hx,(List.dropLast_concat_getLast hx).symm⟩;obtain⟨Y0,y,rfl⟩: ∃Y0 y,Y=Y0++[y]:=⟨Y.dropLast,Y.getLast hy,(List.dropLast_concat_getLast hy).symm⟩;(have hX0:X0.length=n:=by simpa using hX);(have hY0:Y0.length=n:=by simpa using hY);have ih:=gA n P X0 (x::M) Y0 (y::S) a b hX0 hY0 ha (by simp;omega);(have e1:P++(X0++[x])++M++(Y0++[y])++S=P++X0++(x::M)++Y0++(y::S):=by simp);rw[mj,e1,ih];have e2:=sq (A:=P++Y0) (B:=M++X0) (C:=S) (x:=x) (y:=y) (i:=a+n) (j:=b+n) (by simp;omega) (by simp;omega);rw[show P++Y0++x::M++X0++y::S=P++Y0++x::(M++X0)++y::S by simp,e2];simp
def gV(Z l:List ag)(m i j:Nat):Prop:= ∃P X Y S,l=P++X++Y++S∧Z=P++Y++X++S∧X.length=i∧Y.length=j∧P.length+i=m
theorem gV.gt{Z l:List ag}{m i j:Nat}(h:gV Z l m i j)(hij:j<i):gV Z (mj l (m-i) m j) m (i-j) j:=by
 obtain⟨P,X,Y,S,rfl,rfl,hX,hY,hP⟩:=h;have e:=List.take_append_drop j X;obtain⟨X1,h1⟩: ∃X1,X1=X.take j:=⟨_,rfl⟩;obtain⟨X2,h2⟩: ∃X2,X2=X.drop j:=⟨_,rfl⟩;rw[←h1,←h2] at e;have l1:X1.length=j:=by rw[h1,List.length_take];omega
 have l2:X2.length=i-j:=by rw[h2,List.length_drop];omega
 subst e;have h:=gA j P X1 X2 Y S (m-i) m l1 hY (by omega) (by omega);rw[show P++(X1++X2)++Y++S=P++X1++X2++Y++S by simp,h];exact⟨P++Y,X2,X1,S,rfl,by simp,l2,l1,by simp;omega⟩
theorem gV.lt{Z l:List ag}{m i j:Nat}(h:gV Z l m i j)(hij:i<j):gV Z (mj l (m-i) (m+j-i) i) m i (j-i):=by
 obtain⟨P,X,Y,S,rfl,rfl,hX,hY,hP⟩:=h;have e:=List.take_append_drop (j-i) Y;obtain⟨Y1,h1⟩: ∃Y1,Y1=Y.take (j-i):=⟨_,rfl⟩;obtain⟨Y2,h2⟩: ∃Y2,Y2=Y.drop (j-i):=⟨_,rfl⟩;rw[←h1,←h2] at e;have l1:Y1.length=j-i:=by rw[h1,List.length_take];omega
 have l2:Y2.length=i:=by rw[h2,List.length_drop];omega
 subst e;have h:=gA i P X Y1 Y2 S (m-i) (m+j-i) hX l2 (by omega) (by omega);rw[show P++X++(Y1++Y2)++S=P++X++Y1++Y2++S by simp,h];exact⟨P,Y2,Y1,X++S,by simp,by simp,l2,l1,by omega⟩
theorem gV.eq{Z l:List ag}{m i:Nat}(h:gV Z l m i i):mj l (m-i) m i=Z:=by
 obtain⟨P,X,Y,S,rfl,rfl,hX,hY,hP⟩:=h;have h:=gA i P X [] Y S (m-i) m hX hY (by omega) (by simp;omega);simpa using h
theorem gV.len{Z l:List ag}{m i j:Nat}(h:gV Z l m i j):m+j≤l.length∧i≤m∧Z.length=l.length:=by
 obtain⟨P,X,Y,S,rfl,rfl,hX,hY,hP⟩:=h;simp;omega
section
variable {α : Type} {lt : α → α → Bool}
theorem cn.pY(O:lP lt){x:α}{Y:List α}(h:cn lt Y)(h1: ∀y,Y.head? =some y→lt y x=false):cn lt (x::Y):=by
 cases Y with|nil=>exact List.pairwise_singleton _ _|cons z Y=>have h2:=h1 z rfl;exact List.pairwise_cons.2 ⟨fun b hb=>O.le_trans x z b h2 (cn.lu O h b hb),h⟩
theorem vz(O:lP lt){x:α}{Y1 Y2:List α}(hY:cn lt (Y1++Y2))(h1: ∀y,Y1.getLast? =some y→lt y x=true)(h2: ∀y,Y2.head? =some y→lt y x=false):cn lt (Y1++x::Y2)∧(Y1++x::Y2).Perm ([x]++(Y1++Y2)):=by
 have hY':=(cn.append O).1 hY;have s2:=cn.pY O hY'.2.1 h2;refine⟨(cn.append O).2 ⟨hY'.1,s2,cn.meet O hY'.1 s2 fun y z hy hz=> ?_⟩,?_⟩;·simp at hz;subst hz;exact O.td _ _ (h1 y hy)
 ·exact List.perm_middle
theorem tZ(O:lP lt){y:α}{X1 X2:List α}(hX:cn lt (X1++X2))(h1: ∀x,X1.getLast? =some x→lt y x=false)(h2: ∀x,X2.head? =some x→lt y x=true):cn lt (X1++y::X2)∧(X1++y::X2).Perm (X1++X2++[y]):=by
 have hX':=(cn.append O).1 hX;have s2:cn lt (y::X2):=cn.pY O hX'.2.1 fun x hx=>O.td _ _ (h2 x hx);refine⟨(cn.append O).2 ⟨hX'.1,s2,cn.meet O hX'.1 s2 fun x z hx hz=> ?_⟩,?_⟩;·simp at hz;subst hz;exact h1 x hx
 ·rw[List.append_assoc];refine List.Perm.append_left X1 ?_;exact(List.perm_append_comm (l₁:=[y]) (l₂:=X2))
end
end
theorem tX(Z l:List ag)(a m b:Nat)(ham:a<m)(hmb:m<b)(hr:gV Z l m (m-a) (b-m))(hl:l.length≤1048576)(f:Value)(base g c:Nat)(w:World)(h:bk base w g c l):Calls Tryz.prog 287 #[.slice (some ⟨g,0,none⟩) l.length c,.int .i64 (a:Int),.int .i64 (m:Int),.int .i64 (b:Int),f] w (fun e w'=>e=.returned (.tuple #[])∧bk base w' g c Z∧Kept [g] w w'):=by
 have hZ:=hr.len;have HR:=Ad (Ac h hr);clear h hr;have hw1:IntKind.i64.wrap ((m:Int)-(a:Int))=((m-a:Nat):Int):=by rw[IntKind.wrap_i64];omega
 have hw2:IntKind.i64.wrap ((b:Int)-(m:Int))=((b-m:Nat):Int):=by rw[IntKind.wrap_i64];omega
 obtain⟨N,hN⟩: ∃N,N=l.length:=⟨_,rfl⟩;rw[←hN] at hZ ⊢;rw[←hN] at hl;have HN:=Ad hN;clear hN;obtain⟨hb1,-,hZl⟩:=hZ;have HZ:=Ad hZl;clear hZl;have hbl:b≤N:=by omega
 clear hb1;go_enter Tryz.func287,Tryz.ntmps287;go_wp2_with fail;go_loopg[10,11] (b-a) (fun gk s10 s11 wr=> ∃(i j:Nat) (L:List ag),s10=.int .i64 (i:Int)∧s11=.int .i64 (j:Int)∧0<i∧0<j∧gk=i+j∧Hid (gV Z L m i j∧L.length=N∧bk base wr g c L∧Kept [g] w wr));case atStart=>exact⟨m-a,b-m,l,by first|rfl|go_num,by first|rfl|go_num,by omega,by omega,by omega,Ad ⟨HR.out.2,HN.out.symm,HR.out.1,Kept.refl _ _⟩⟩
 case round=>
  obtain⟨i,j,L,rfl,rfl,hi,hj,rfl,HQ⟩:=hrel;have hq:=HQ.out.1.len;rw[HQ.out.2.1] at hq;obtain⟨q1,q2,q3⟩:=hq;clear q3;rcases Nat.lt_trichotomy i j with hij|hij|hij
  ·have h1: ¬((i:Int)=(j:Int)):=by omega
   have h2: ¬((j:Int)<(i:Int)):=by omega
   have hv1:IntKind.i64.wrap ((m:Int)-(i:Int))=((m-i:Nat):Int):=by rw[IntKind.wrap_i64];omega
   have hv2:IntKind.i64.wrap ((m:Int)+(j:Int))=(m:Int)+(j:Int):=by rw[IntKind.wrap_i64];omega
   have hv3:IntKind.i64.wrap ((m:Int)+(j:Int)-(i:Int))=(m:Int)+(j:Int)-(i:Int):=by rw[IntKind.wrap_i64];omega
   have hv4:IntKind.i64.wrap ((j:Int)-(i:Int))=((j-i:Nat):Int):=by rw[IntKind.wrap_i64];omega
   have hc:=fun w0 h=>gC L (m-i) (m+j-i) i (by omega) (by rw[HQ.out.2.1];omega) (by rw[HQ.out.2.1];omega) f base g c w0 h;rw[HQ.out.2.1,show((m+j-i:Nat):Int)=(m:Int)+(j:Int)-(i:Int) by omega] at hc;go_wp2_with fail;go_at_call 326;refine(hc _ (by first|exact HQ.out.2.2.1|exact HQ.out.2.2.1.below (ae _).drew)).mono ?_;rintro e w3 ⟨rfl,hr3,hk3⟩;have HK:=Ad (Ac hr3 hk3);clear hr3 hk3;go_wp2_with fail;go_roundg(j);case measure=>omega
   case rel=>exact⟨i,j-i,_,rfl,by first|rfl|go_num,hi,by omega,by omega,Ad ⟨HQ.out.1.lt hij,by rw[ll];exact HQ.out.2.1,HK.out.1,by first|exact HQ.out.2.2.2.trans HK.out.2|exact(HQ.out.2.2.2.trans (Kept.az (ae _).drew)).trans HK.out.2⟩⟩
  ·subst hij;have hv1:IntKind.i64.wrap ((m:Int)-(i:Int))=((m-i:Nat):Int):=by rw[IntKind.wrap_i64];omega
   have hc:=fun w0 h=>gC L (m-i) m i (by omega) (by rw[HQ.out.2.1];omega) (by rw[HQ.out.2.1];omega) f base g c w0 h;rw[HQ.out.2.1,HQ.out.1.eq] at hc;go_wp2_with fail;go_at_call 326;refine(hc _ (by first|exact HQ.out.2.2.1|exact HQ.out.2.2.1.below (ae _).drew)).mono ?_;rintro e w3 ⟨rfl,hr3,hk3⟩;have HK:=Ad (Ac hr3 hk3);clear hr3 hk3;go_wp2_with fail;refine bodyPost_end (v:=.tuple #[]) (by simp[results,Tryz.results287,go_sem]) rfl ?_;exact⟨rfl,HK.out.1,by first|exact HQ.out.2.2.2.trans HK.out.2|exact(HQ.out.2.2.2.trans (Kept.az (ae _).drew)).trans HK.out.2⟩
  ·have h1: ¬((i:Int)=(j:Int)):=by omega
   have h2:((j:Int)<(i:Int)):=by omega
   have hv1:IntKind.i64.wrap ((m:Int)-(i:Int))=((m-i:Nat):Int):=by rw[IntKind.wrap_i64];omega
   have hv4:IntKind.i64.wrap ((i:Int)-(j:Int))=((i-j:Nat):Int):=by rw[IntKind.wrap_i64];omega
   have hc:=fun w0 h=>gC L (m-i) m j (by omega) (by rw[HQ.out.2.1];omega) (by rw[HQ.out.2.1];omega) f base g c w0 h;rw[HQ.out.2.1] at hc;go_wp2_with fail;go_at_call 326;refine(hc _ (by first|exact HQ.out.2.2.1|exact HQ.out.2.2.1.below (ae _).drew)).mono ?_;rintro e w3 ⟨rfl,hr3,hk3⟩;have HK:=Ad (Ac hr3 hk3);clear hr3 hk3;go_wp2_with fail;go_roundg(i);case measure=>omega
   case rel=>exact⟨i-j,j,_,by first|rfl|go_num,rfl,by omega,hj,by omega,Ad ⟨HQ.out.1.gt hij,by rw[ll];exact HQ.out.2.1,HK.out.1,by first|exact HQ.out.2.2.2.trans HK.out.2|exact(HQ.out.2.2.2.trans (Kept.az (ae _).drew)).trans HK.out.2⟩⟩
end Go.Proofs.YtodpdjehjllhdaaGreatDoor
