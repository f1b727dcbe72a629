/- Part of a proof: contracts and plain laws. -/
import Derived.Test.YtodpdjehjllhdaaGreatDoorZ06
set_option linter.unusedVariables false
set_option maxRecDepth 100000
set_option maxHeartbeats 20000000
namespace Go.Proofs.YtodpdjehjllhdaaGreatDoor
open Go.RowKit
def wj(g:Nat)(code:List UInt8)(w:World)(e:Ending)(w':World):Prop:= ∃n x,e=.returned (.agg #[.int .i64 n,.int .i64 x])∧aT n x=true∧Ce g w w'∧dI w' g code
theorem jd(g:Nat)(code:List UInt8)(w:World)(hc:dI w g code):Calls Tryz.prog 180 #[.pointer (some ⟨g,0,none⟩)] w (wj g code w):=by
 have hg:=hc.lt;have B0:=xQ (ab (af w) (.cells #[.int .i64 0,.int .i64 0] 108));have P0:=xQ (ah.new w 108 #[.int .i64 0,.int .i64 0]);have HC:=xQ (hc.below B0.out);clear hc;go_enter Tryz.func180,Tryz.ntmps180;go_wp2_with fail;go_loopg[3] 6 (fun gk i wr=> ∃k:Nat,i=.int .i64 k∧gk=6-k∧k≤6∧Ce g w wr∧dI wr g code∧ah wr w.heap.size 108 #[.int .i64 0,.int .i64 0]);case atStart=>exact⟨0,rfl,rfl,by omega,Ce.of B0.out (by omega),HC.out,P0.out⟩
 case round=>
  obtain⟨k,rfl,rfl,hk,hce,hcur,hP⟩:=hrel;have hzr:=hP.lt;have HX:=xQ (xP hce (xP hcur hP));clear hce hcur hP;by_cases hlt:k<6
  ·have hi1:(k:Int)<6:=by omega
   go_wp2_with fail;refine(dW g code wr HX.out.2.1).mono ?_;rintro e w2 ⟨x,rfl,hx0,hx1,hce,hcur⟩;have HY:=xQ (xP (HX.out.1.trans hce) (xP hcur (hce.dc HX.out.2.2 (by omega))));clear hce hcur;go_wp2_with fail;refine(av g code 17 w2 (by omega) (by omega) HY.out.2.1).mono ?_;rintro e w3 ⟨y,rfl,hy0,hy1,hce,hcur⟩;have HZ:=xQ (xP (HY.out.1.trans hce) (xP hcur (hce.dc HY.out.2.2 (by omega))));clear hce hcur;have hw:IntKind.i64.wrap (-y)= -y:=by rw[IntKind.wrap_i64];omega
   go_wp2_with fail;refine(lU x (-y) w3 ⟨by omega,by omega⟩).mono ?_;rintro e w4 ⟨rn,rx,rb,rfl,hrd,hrn,hrx,hb4⟩;unfold dH;have hg3:=HZ.out.2.1.lt;have HI:=xQ (xP hrn hrx);have HRD:=xQ hrd;clear hrd;have HW:=xQ (xP (HZ.out.1.trans (Ce.of hb4 (by omega))) (xP (HZ.out.2.1.below hb4) (HZ.out.2.2.below hb4)));clear hb4 hrn hrx;have R:=HW.out.2.2;have f0:=R.frozen 0;have f1:=R.frozen 1;obtain⟨p0,p1⟩:=R.c2;have hz4:w.heap.size<w4.heap.size:=R.lt;have hg4:=HW.out.2.1.lt;clear R;cases rb
   ·go_wp2_with fail;go_roundg(6-(k+1));case measure=>omega
    case rel=>exact⟨k+1,by go_num,rfl,by omega,HW.out.1.add _ (by omega),HW.out.2.1.below (ab (af w4) _),HW.out.2.2.alloc _⟩
   ·go_wp2_with fail;refine bodyPost_ret (v:=.agg #[.int .i64 rn,.int .i64 rx]) (by simp[results,Tryz.results180,go_sem, *]<;>rfl) rfl ?_;have h5:=Ce.cV hg (xP HW.out.1 HW.out.2.1) (Nat.le_refl w.heap.size) (.int .i64 rn) (.int .i64 rx);exact⟨rn,rx,rfl,HRD.out (by first|rfl|trivial),h5.1.add _ (by simp;omega),h5.2.below (ab (af _) _)⟩
  ·have hi1: ¬((k:Int)<6):=by omega
   have f0:=HX.out.2.2.frozen 0;have f1:=HX.out.2.2.frozen 1;obtain⟨p0,p1⟩:=HX.out.2.2.c2;go_wp2_with fail;refine bodyPost_ret (v:=.agg #[.int .i64 15,.int .i64 (-1)]) (by simp[results,Tryz.results180,go_sem, *]<;>rfl) rfl ?_;have h5:=Ce.cV hg (xP HX.out.1 HX.out.2.1) (Nat.le_refl w.heap.size) (.int .i64 15) (.int .i64 (-1));exact⟨15,-1,rfl,by have h17:=(iL 15).2 (by omega);unfold aT;rw[if_neg (by omega)];simp[h17],h5.1,h5.2⟩
theorem oQ(g:Nat)(code:List UInt8)(w:World)(hc:dI w g code):Calls Tryz.prog 121 #[.pointer (some ⟨g,0,none⟩)] w (wj g code w):=by
 have hg:=hc.lt;have B0:=xQ (ab (af w) (.cells #[.int .i64 0,.int .i64 0] 108));have P0:=xQ (ah.new w 108 #[.int .i64 0,.int .i64 0]);have HC:=xQ (hc.below B0.out);clear hc;go_enter Tryz.func121,Tryz.ntmps121;go_wp2_with fail;refine(cD g code 2 _ (by omega) (by omega) HC.out).mono ?_;rintro e w1 ⟨b,rfl,hce,hcur⟩;have P1:=xQ (hce.dc P0.out (by omega));have HX:=xQ (xP ((Ce.of B0.out (by omega)).trans hce) hcur);clear hce hcur;cases b;·go_wp2_with fail;refine(jd g code _ HX.out.2).mono ?_;rintro e wz ⟨n,x,rfl,hn,hce,hcur⟩;have HDN:=xQ hn;clear hn;have RZ:=hce.dc P1.out (by omega);have f0:=RZ.frozen 0;have f1:=RZ.frozen 1;obtain⟨p0,p1⟩:=RZ.c2;have hzz:w.heap.size<wz.heap.size:=RZ.lt;have HZ:=xQ (xP (HX.out.1.trans hce) hcur);clear hce hcur RZ;go_wp2_with fail;refine bodyPost_ret (v:=.agg #[.int .i64 n,.int .i64 x]) (by simp[results,Tryz.results121,go_sem, *]<;>rfl) rfl ?_;have h5:=Ce.cV hg HZ.out (Nat.le_refl w.heap.size) (.int .i64 n) (.int .i64 x);exact⟨n,x,rfl,HDN.out,h5.1,h5.2⟩
 ·go_wp2_with fail;refine(jy g code w1 HX.out.2).mono ?_;rintro e w2 ⟨m,x,rfl,hm,hce,hcur⟩;have HM:=xQ hm;clear hm;have P2:=xQ (hce.dc P1.out (by omega));have HY:=xQ (xP (HX.out.1.trans hce) hcur);clear hce hcur;go_wp2_with fail;refine(fh m x w2 HM.out).mono ?_;rintro e w3 ⟨rfl,hb3⟩;have hny:=qj HM.out;unfold nm;obtain⟨n,hn1⟩: ∃n,n=(aE m x).1:=⟨_,rfl⟩;obtain⟨y,hy1⟩: ∃y,y=(aE m x).2:=⟨_,rfl⟩;rw[←hn1,←hy1] at hny ⊢;obtain⟨hn,hy⟩:=hny;clear hn1 hy1;have hg2:=HY.out.2.lt;have P3:=xQ (P2.out.below hb3);have HZ:=xQ (xP (HY.out.1.trans (Ce.of hb3 (by omega))) (HY.out.2.below hb3));clear hb3;have hg3:=HZ.out.2.lt;have hz3:=P3.out.lt;have Q3:=xQ (ah.new w3 108 #[.int .i64 n,.int .i64 y]);have P3a:=xQ (P3.out.alloc (.cells #[.int .i64 n,.int .i64 y] 108));have HZa:=xQ (xP (HZ.out.1.add (.cells #[.int .i64 n,.int .i64 y] 108) (by omega)) (HZ.out.2.below (ab (af w3) (.cells #[.int .i64 n,.int .i64 y] 108))));go_wp2_with fail;refine(cD g code 3 _ (by omega) (by omega) HZa.out.2).mono ?_;rintro e w4 ⟨b2,rfl,hce,hcur⟩;have P4:=xQ (hce.dc P3a.out (by omega));have Q4:=xQ (hce.dc Q3.out (by omega));have HV:=xQ (xP (HZa.out.1.trans hce) hcur);clear hce hcur;have hz4:w3.heap.size<w4.heap.size:=Q4.out.lt;obtain⟨q0,q1⟩:=Q4.out.c2;have g0:=Q4.out.frozen 0;have g1:=Q4.out.frozen 1;have hg4:=HV.out.2.lt;cases b2
  ·go_wp2_with fail;refine(bq n y _ hn).mono ?_;rintro e w5 ⟨rfl,hb5⟩;obtain⟨b3,hb3⟩: ∃b,b=aT n y:=⟨_,rfl⟩;rw[←hb3];have HB3:=xQ hb3;clear hb3;have P5:=xQ (P4.out.below hb5);have Q5:=xQ (Q4.out.below hb5);have HU:=xQ (xP (HV.out.1.trans (Ce.of hb5 (by first|omega|(simp;omega)))) (HV.out.2.below hb5));clear hb5 q0 q1 g0 g1;have hz5:w3.heap.size<w5.heap.size:=Q5.out.lt;have hg5:=HU.out.2.lt;obtain⟨q0,q1⟩:=Q5.out.c2;cases b3;·go_wp2_with fail;refine(jd g code _ HU.out.2).mono ?_;rintro e wz ⟨n,x,rfl,hn,hce,hcur⟩;have HDN:=xQ hn;clear hn;have RZ:=hce.dc P5.out (by omega);have f0:=RZ.frozen 0;have f1:=RZ.frozen 1;obtain⟨p0,p1⟩:=RZ.c2;have hzz:w.heap.size<wz.heap.size:=RZ.lt;have HZ:=xQ (xP (HU.out.1.trans hce) hcur);clear hce hcur RZ;go_wp2_with fail;refine bodyPost_ret (v:=.agg #[.int .i64 n,.int .i64 x]) (by simp[results,Tryz.results121,go_sem, *]<;>rfl) rfl ?_;have h5:=Ce.cV hg HZ.out (Nat.le_refl w.heap.size) (.int .i64 n) (.int .i64 x);exact⟨n,x,rfl,HDN.out,h5.1,h5.2⟩
   ·have f0:=P5.out.frozen 0;have f1:=P5.out.frozen 1;obtain⟨p0,p1⟩:=P5.out.c2;have hzz:w.heap.size<w5.heap.size:=P5.out.lt;go_wp2_with fail;refine bodyPost_ret (v:=.agg #[.int .i64 n,.int .i64 y]) (by simp[results,Tryz.results121,go_sem, *]<;>rfl) rfl ?_;have h5:=Ce.cV hg HU.out (Nat.le_refl w.heap.size) (.int .i64 n) (.int .i64 y);exact⟨_,y,rfl,HB3.out.symm,h5.1,h5.2⟩
  ·have QS:=xQ (Q4.out.cK 0 (.int .i64 (wrap64 (n+1))));have PS:=xQ (P4.out.pC (p:=⟨w3.heap.size,0,none⟩) (by simp;omega) (.int .i64 (wrap64 (n+1))));have HS:=xQ (Ce.kO hg HV.out (by omega:w.heap.size≤w3.heap.size) 0 (.int .i64 (wrap64 (n+1))));go_wp2_with fail;refine(bq (wrap64 (n+1)) y _ (xu _)).mono ?_;rintro e w5 ⟨rfl,hb5⟩;obtain⟨b3,hb3⟩: ∃b,b=aT (wrap64 (n+1)) y:=⟨_,rfl⟩;rw[←hb3];have HB3:=xQ hb3;clear hb3;have P5:=xQ (PS.out.below hb5);have Q5:=xQ (QS.out.below hb5);have HU:=xQ (xP (HS.out.1.trans (Ce.of hb5 (by first|omega|(simp;omega)))) (HS.out.2.below hb5));clear hb5 q0 q1 g0 g1;have hz5:w3.heap.size<w5.heap.size:=Q5.out.lt;have hg5:=HU.out.2.lt;obtain⟨q0,q1⟩:=Q5.out.c2;cases b3;·go_wp2_with fail;refine(jd g code _ HU.out.2).mono ?_;rintro e wz ⟨n,x,rfl,hn,hce,hcur⟩;have HDN:=xQ hn;clear hn;have RZ:=hce.dc P5.out (by omega);have f0:=RZ.frozen 0;have f1:=RZ.frozen 1;obtain⟨p0,p1⟩:=RZ.c2;have hzz:w.heap.size<wz.heap.size:=RZ.lt;have HZ:=xQ (xP (HU.out.1.trans hce) hcur);clear hce hcur RZ;go_wp2_with fail;refine bodyPost_ret (v:=.agg #[.int .i64 n,.int .i64 x]) (by simp[results,Tryz.results121,go_sem, *]<;>rfl) rfl ?_;have h5:=Ce.cV hg HZ.out (Nat.le_refl w.heap.size) (.int .i64 n) (.int .i64 x);exact⟨n,x,rfl,HDN.out,h5.1,h5.2⟩
   ·have f0:=P5.out.frozen 0;have f1:=P5.out.frozen 1;obtain⟨p0,p1⟩:=P5.out.c2;have hzz:w.heap.size<w5.heap.size:=P5.out.lt;go_wp2_with fail;refine bodyPost_ret (v:=.agg #[.int .i64 (wrap64 (n+1)),.int .i64 y]) (by simp[results,Tryz.results121,go_sem, *]<;>rfl) rfl ?_;have h5:=Ce.cV hg HU.out (Nat.le_refl w.heap.size) (.int .i64 (wrap64 (n+1))) (.int .i64 y);exact⟨_,y,rfl,HB3.out.symm,h5.1,h5.2⟩
def im(n d:Nat)(l:List ag):Prop:=l.length≤n∧ ∀x∈l,x.p.length≤d∧1≤x.kind∧x.kind≤9
theorem im.nil(n d:Nat):im n d []:=⟨by simp,by simp⟩
theorem im.one{n d:Nat}{x:ag}(hn:1≤n)(h:x.p.length≤d∧1≤x.kind∧x.kind≤9):im n d [x]:=⟨by simpa using hn,by simpa using h⟩
theorem im.app{n m d:Nat}{a b:List ag}(ha:im n d a)(hb:im m d b):im (n+m) d (a++b):=⟨by rw[List.length_append];have:=ha.1;have:=hb.1;omega,fun x hx=>by rcases List.mem_append.1 hx with h|h;(·exact ha.2 x h);·exact hb.2 x h⟩
theorem im.mono{n m d e:Nat}{a:List ag}(h:im n d a)(hn:n≤m)(hd:d≤e):im m e a:=⟨Nat.le_trans h.1 hn,fun x hx=>⟨Nat.le_trans (h.2 x hx).1 hd,(h.2 x hx).2⟩⟩
theorem jh(way:Int)(v:aa):0≤(bJ way v).2∧(bJ way v).2≤5:=by
 have near:0≤(ax v.n v.x).2∧(ax v.n v.x).2≤5:=by unfold ax;split;(·exact⟨by decide,by decide⟩);·simp only;split<;>exact⟨by decide,by decide⟩
 unfold bJ;split;·exact near
 ·split;·exact near
  ·split;·exact⟨by simp,by simp⟩
   ·split;·exact⟨by simp,by simp⟩
    ·split<;>exact⟨by simp,by simp⟩
theorem qi(way:Int){d:Nat}{p:List GStep}(hp:p.length+1≤d): ∀(l:List aa)(i n:Nat),(∀j(h:j<l.length),im (1+bulkVal l[j]) d (cl way 10 l[j] (i+j) p).2)→im (bulkVals l) d (bl p (aF (projL way 10 l i p) n))|[],i,n,_=>by rw[projL,aF];exact im.nil _ _;simp|[a],i,n,_=>by rw[cF,projL,aF];exact im.nil _ _;simp|a::b::l,i,n,h=>by have h0:=h 0 (by simp);have h1:=h 1 (by simp);simp only[List.getElem_cons_zero,Nat.add_zero,List.getElem_cons_succ] at h0 h1;(have hr:=qi way hp l (i+1+1) (n+1) fun j hj=>by have:=h (j+1+1) (by simpa using hj);simp only[List.getElem_cons_succ] at this;rwa[show i+(j+1+1)=i+1+1+j by omega] at this);rw[cF,cF,aF,bl,bulkVals,bulkVals];refine(im.app (n:=(1+bulkVal a)+(1+bulkVal b)) ?_ hr).mono (by omega) (Nat.le_refl _);split;(·exact im.one (by omega) ⟨by simp;omega,by simp,by simp⟩);·exact h0.app h1
theorem mL(way k:Int){d:Nat}{p:List GStep}: ∀(l:List aa)(i:Nat),(∀j(h:j<l.length),im (1+bulkVal l[j]) d (cl way k l[j] (i+j) p).2)→im (bulkVals l) d ((projL way k l i p).flatMap (·.2))|[],i,_=>by rw[projL];exact im.nil _ _|a::l,i,h=>by have h0:=h 0 (by simp);simp only[List.getElem_cons_zero,Nat.add_zero] at h0;(have h1:=mL way k l (i+1) fun j hj=>by have:=h (j+1) (by simpa using hj);simp only[List.getElem_cons_succ] at this;rwa[show i+(j+1)=i+1+j by omega] at this);rw[cF,List.flatMap_cons,bulkVals];exact h0.app h1
theorem cU(way:Int)(v:aa): ∀p,im (1+bulkVal v) (p.length+depG v) (projP way v p).2:=by
 refine aa.ind (p:=fun v=> ∀p,im (1+bulkVal v) (p.length+depG v) (projP way v p).2) (fun v IH p=> ?_) v;have hE: ∀k i(hi:i<v.l.length) p,im (1+bulkVal v.l[i]) (p.length+depG v) (cl way k v.l[i] i p).2:=by intro k i hi p;have hd:=dY (List.getElem_mem hi);unfold cl;split;(·simp only;split;(·exact im.nil _ _);·exact im.one (by omega) ⟨by simp;omega,by simp,by simp⟩);·exact(IH i hi _).mono (Nat.le_refl _) (by simp;omega)
 rw[aw];have hE0: ∀k j(hj:j<v.l.length),im (1+bulkVal v.l[j]) (p.length+depG v) (cl way k v.l[j] (0+j) p).2:=fun k j hj=>by rw[Nat.zero_add];exact hE k j hj p
 by_cases h9:v.kind=9;·rw[dD h9];exact(mL way 9 v.l 0 (hE0 9)).mono (by omega) (Nat.le_refl _)
 ·by_cases h10:v.kind=10
  ·rw[dQ h10];unfold eU;simp only;have ho:im 1 (p.length+depG v) (if(cf way (aD (aF (projL way 10 v.l 0 p) 0))).map ai.at_=(aD (aF (projL way 10 v.l 0 p) 0)).map ai.at_ then[] else[⟨9,p⟩]):=by split;(·exact im.nil _ _);·exact im.one (by omega) ⟨by simp,by simp,by simp⟩
   by_cases hl:v.l=[]
   ·refine((im.app (n:=0) ?_ ho)).mono (by omega) (Nat.le_refl _);rw[hl,projL,aF];·exact im.nil _ _
    ·simp
   ·have hd:1≤depG v:=by obtain⟨a,ha⟩:=List.exists_mem_of_ne_nil _ hl;have:=dY ha;omega
    exact((qi way (by omega) v.l 0 0 (hE0 10)).app ho).mono (by omega) (Nat.le_refl _)
  ·by_cases h11:v.kind=11
   ·obtain⟨k,n,x,s,l⟩:=v;simp only at h11;subst h11;rw[projP];simp only[show((11:Int)=10)=False by simp,show((11:Int)=9)=False by simp,if_false,if_true];have h:=mL way 11 l 0 (hE0 11);split;·exact h.mono (by omega) (Nat.le_refl _)
    ·exact(h.app (im.one (n:=1) (x:=⟨6,p⟩) (by omega) ⟨by simp,by simp,by simp⟩)).mono (by omega) (Nat.le_refl _)
   ·rw[dF h9 h10 h11];simp only;split;·exact im.nil _ _
    ·have:=jh way v;exact im.one (by omega) ⟨by simp,by simp only;omega,by simp only;omega⟩

def bX(p:List GStep):List ai→List ag|[]=>[]|c::l=>(if dL c l then[⟨8,p++[⟨c.at_,true⟩]⟩] else c.nl)++bX p l
theorem ib(p:List GStep): ∀cs,(bl p cs).Perm (bX p cs++(aD cs).flatMap (·.vl))|[]=>by simp[bl,bX,aD]|c::cs=>by have h:=ib p cs;rw[bl,bX,aD];split;(·rw[List.append_assoc];exact h.append_left _);·rw[List.flatMap_cons,List.append_assoc,List.append_assoc];refine List.Perm.append_left _ ?_;refine(h.append_left _).trans ?_;rw[←List.append_assoc,←List.append_assoc];exact List.Perm.append_right _ List.perm_append_comm
theorem j2{α β:Type}{f:α→List β}{a b:List α}(h:a.Perm b):(a.flatMap f).Perm (b.flatMap f):=by
 induction h with|nil=>exact .refl _|cons x _ ih=>rw[List.flatMap_cons,List.flatMap_cons];exact ih.append_left _|swap x y l=>rw[List.flatMap_cons,List.flatMap_cons,List.flatMap_cons,List.flatMap_cons,←List.append_assoc,←List.append_assoc];exact List.Perm.append_right _ List.perm_append_comm|trans _ _ ih1 ih2=>exact ih1.trans ih2
theorem kv(way:Int)(cs:List ai)(p:List GStep):(eU way cs p).2.Perm (bX p cs++(cf way (aD cs)).flatMap (·.vl)++if(cf way (aD cs)).map ai.at_=(aD cs).map ai.at_ then[] else[⟨9,p⟩]):=by
 unfold eU;refine List.Perm.append_right _ ?_;exact(ib p cs).trans ((j2 (c7 way (aD cs)).symm).append_left _)
def ij:aa:=⟨0,0,0,.empty,[]⟩
theorem uR:valOkP ij=false:=by
 rw[bG];rfl
theorem dK{v:aa}(h:valOkP v=true)(hs:v.s.size≤maxLen):bB v:=by
 have ho:=(bm h).1;have hd:aT v.n v.x=true→aX v.n∧aX v.x:=fun h=>by unfold aT at h;split at h;(·rename_i e;rw[decide_eq_true_iff] at h;exact⟨⟨by omega,by omega⟩,by rw[e];exact aX.zero⟩);·rw[Bool.and_eq_true,Bool.and_eq_true,decide_eq_true_iff,decide_eq_true_iff,iL] at h;exact⟨⟨by omega,by omega⟩,⟨by omega,by omega⟩⟩
 have hf:a8 v.n v.x=true→aX v.n∧aX v.x:=fun h=>by rcases lC h with⟨e1,e2⟩|h;(·rw[e1,e2];exact⟨aX.zero,aX.zero⟩);·exact⟨⟨by omega,by omega⟩,⟨by omega,by omega⟩⟩
 have z:aX 0:=aX.zero;have key:aX v.kind∧aX v.n∧aX v.x:=by(have hk:v.kind=1∨v.kind=2∨v.kind=3∨v.kind=4∨v.kind=5∨v.kind=6∨v.kind=7∨v.kind=8∨v.kind=9∨v.kind=10∨v.kind=11∨ ¬(1≤v.kind∧v.kind≤11):=by omega);unfold ae at ho;rcases hk with hk|hk|hk|hk|hk|hk|hk|hk|hk|hk|hk|hk;(all_goals first|(rw[if_neg (by omega),if_neg (by omega),if_neg (by omega),if_neg (by omega),if_neg (by omega),if_neg (by omega),if_neg (by omega),if_neg (by omega),if_neg (by omega),if_neg (by omega),if_neg (by omega)] at ho;cases ho;done)|(simp only[hk] at ho;simp at ho;rw[hk]));(·rw[ho.1,ho.2.1];exact⟨⟨by omega,by omega⟩,z,z⟩);(·rw[ho.2.1];exact⟨⟨by omega,by omega⟩,⟨by omega,by omega⟩,z⟩);(·rw[ho.2.1];exact⟨⟨by omega,by omega⟩,⟨by omega,by omega⟩,z⟩);(·exact⟨⟨by omega,by omega⟩,hf ho.1⟩);(·rw[ho.2.1];exact⟨⟨by omega,by omega⟩,⟨by omega,by omega⟩,z⟩);(·exact⟨⟨by omega,by omega⟩,hd ho.1⟩);(·rw[ho.1.1,ho.1.2];exact⟨⟨by omega,by omega⟩,z,z⟩);(·rw[ho.1,ho.2.1];exact⟨⟨by omega,by omega⟩,z,z⟩);(·rw[ho.1,ho.2.1];exact⟨⟨by omega,by omega⟩,z,z⟩);(·rw[ho.1,ho.2.1];exact⟨⟨by omega,by omega⟩,z,z⟩);·rw[ho.2.1];exact⟨⟨by omega,by omega⟩,⟨by omega,by omega⟩,z⟩
 exact⟨key.1,key.2.1,key.2.2,hs⟩
def dj(v:aa):Prop:=bB v∧fq v∧depG v≤4∧potG v≤10000∧bulkVal v≤40000
theorem sn:dj ij:=by
 refine⟨⟨aX.zero,aX.zero,aX.zero,by simp[ij]⟩,fq.of (fun h=>absurd h (by decide)) (by intro u hu;simp[ij,preL] at hu),by rw[dz];simp[ij,depL],by rw[aU];simp[ij,potL],by rw[aw];simp[ij,bulkVals]⟩
theorem nT{way:Int}{v:aa}(h:dj v):dj (au way v).1:=by
 unfold au;split;·rename_i hc;obtain⟨h1,h2,h3,h4,h5⟩:=h;obtain⟨k1,k2,k3,k4⟩:=cM way v hc.1 h2 [];exact⟨dK k1 (by have:=br _ k1;rw[aw] at this;show(projP way v []).1.s.size≤maxLen;unfold maxLen;omega),k2,by simp only;omega,by simp only;omega,by have:=br _ k1;simp only;omega⟩
 ·exact sn
def bY(ways:List Int)(v:aa):aa:=(ways.take 8).foldl (fun u w=>(au w u).1) v
theorem gm: ∀(ws:List Int){v:aa},dj v→dj (ws.foldl (fun u w=>(au w u).1) v)|[],_,h=>h|w::ws,_,h=>gm ws (nT h)
theorem mT{way:Int}{v:aa}(hw:1≤way∧way≤4)(h:fq v):(au way (au way v).1).1=(au way v).1:=by
 by_cases hc:valOkP v=true
 ·have e:au way v=((projP way v []).1,a7 (projP way v []).2):=by unfold au;rw[if_pos ⟨hc,hw⟩]
  rw[e];have hk:=cM way v hc h [];have hf:=tg way hw v hc h [] [];unfold au;rw[if_pos ⟨hk.1,hw⟩,hf]
 ·have e:au way v=(ij,[]):=by unfold au ij;rw[if_neg (fun h=>hc h.1)]
  rw[e];show(au way ij).1=ij;unfold au;rw[if_neg (fun h=>by rw[uR] at h;exact absurd h.1 (by decide))];rfl
theorem pb{ways:List Int}{v:aa}(h:dj v)(hne:ways≠[])(hl:ways.length<8)(hw:1≤ways.getLast hne∧ways.getLast hne≤4):bY (ways++[ways.getLast hne]) v=bY ways v:=by
 have e:=List.dropLast_concat_getLast hne;unfold bY;rw[List.take_of_length_le (by simp;omega),List.take_of_length_le (by omega)];conv=>rhs;rw[←e]
 rw[List.foldl_append];conv=>lhs;arg 2;rw[←e]
 rw[List.foldl_append];simp only[List.foldl_cons,List.foldl_nil];exact mT hw (gm _ h).2.1
theorem nP{way:Int}{v:aa}(hok:valOkP v=true)(h:(au way v).2=[])(hw:1≤way∧way≤4):(au way v).1=v:=by
 unfold au at h ⊢;rw[if_pos ⟨hok,hw⟩] at h ⊢;refine rK way v hok [] ?_;have:=gY (projP way v []).2;rw[show a7 (projP way v []).2=[] from h] at this;exact List.length_eq_zero_iff.1 this.symm
def kd(v:aa):List Int:=if valOkP v=true then[1,2,3,4].filter fun w=>decide ((au w v).2=[]) else[]
theorem tx{v:aa}{w:Int}(h:w∈kd v):valOkP v=true∧(au w v).2=[]∧1≤w∧w≤4:=by
 unfold kd at h;split at h;·rename_i hok;obtain⟨h1,h2⟩:=List.mem_filter.1 h;refine⟨hok,by simpa using h2,?_⟩;simp at h1;omega
 ·cases h
theorem mZ{v:aa}: ∀(ws:List Int),(∀w∈ws,(au w v).1=v)→ws.foldl (fun u w=>(au w u).1) v=v|[],_=>rfl|w::ws,h=>by rw[List.foldl_cons,h w (by simp)];exact mZ ws fun x hx=>h x (by simp[hx])
theorem o6(v:aa):bY (kd v) v=v:=by
 unfold bY;refine mZ _ fun w hw=> ?_;have h:=tx (List.mem_of_mem_take hw);exact nP h.1 h.2.1 h.2.2
def qD(d P:Nat)(v:aa):Prop:=potG v≤P∧depG v≤d∧fq v∧valOkP v=true
theorem qD.mono{d d' P P':Nat}{v:aa}(h:qD d P v)(hd:d≤d')(hP:P≤P'):qD d' P' v:=⟨Nat.le_trans h.1 hP,Nat.le_trans h.2.1 hd,h.2.2⟩
theorem qD.wL{d P:Nat}{v:aa}(h:qD d P v)(hd:d≤4)(hP:P≤10000):dj v:=by
 obtain⟨h1,h2,h3,h4⟩:=h;have hb:=br v h4;exact⟨dK h4 (by rw[aw] at hb;unfold maxLen;omega),h3,by omega,by omega,by omega⟩
theorem gg.nil:gg []:=fun u hu=>by simp[preL] at hu
theorem gg.snoc{l:List aa}{a:aa}(h:gg l)(ha:fq a):gg (l++[a]):=by
 intro u hu;rw[oH] at hu;rcases List.mem_append.1 hu with hu|hu;·exact h u hu
 ·exact ha u hu
theorem qD.leaf{k n x:Int}{s:ByteArray}(hk:k≤8)(hs:s.size≤100)(h:valOkP ⟨k,n,x,s,[]⟩=true):qD 0 200 ⟨k,n,x,s,[]⟩:=by
 refine⟨?_,?_,fq.of (fun h=>by simp only at h;omega) gg.nil,h⟩
 ·rw[aU];simp only[potL];split;·omega
  ·split<;>omega
 ·rw[dz];simp[depL]
theorem kX(l:List aa)(a:aa):potL (l++[a])=potL l+(1+potG a):=by
 rw[sO,sO];simp;omega
theorem uG{u:aa}(h:bL u):potG u≤24∧depG u=0:=by
 obtain⟨h1,h2,h3⟩:=h;refine⟨?_,by rw[dz,h2];rfl⟩;rw[aU,h2];simp only[potL];rcases h3 with⟨h3,_,_,_⟩|⟨h3,_,h4,_⟩;·rw[if_neg (by omega),if_pos (by omega)];omega
 ·rw[if_neg (by omega),if_neg (by omega)];omega
structure DL (m : Bool) (q d P : Nat) (l : List aa) : Prop where
  len : l.length ≤ 2 * q
  two : m = true → l.length = 2 * q ∧ ∀ i (h : i < l.length), i % 2 = 0 → bL l[i]
  pot : potL l ≤ q * (26 + P)
  dep : depL l ≤ d + 1
  wM : gg l
  ok : valsOkP l = true
theorem DL.nil(m:Bool)(d P:Nat):DL m 0 d P []:=⟨by simp,fun _=>⟨by simp,fun i h=>by simp at h⟩,by simp[potL],by simp[depL],gg.nil,rfl⟩
theorem iF{l:List aa}{a:aa}{d:Nat}(h:depL l≤d+1)(ha:depG a≤d):depL (l++[a])≤d+1:=by
 rw[jN] at h ⊢;intro b hb;rcases List.mem_append.1 hb with hb|hb;·exact h b hb
 ·rw[List.mem_singleton.1 hb];omega
theorem DL.add{q d P:Nat}{l:List aa}{x:aa}(h:DL false q d P l)(hx:qD d P x):DL false (q+1) d P (l++[x]):=by
 obtain⟨h1,h2,h3,h4⟩:=hx;have hm:(q+1)*(26+P)=q*(26+P)+(26+P):=Nat.succ_mul _ _;have hp:=h.pot;refine⟨by have:=h.len;simp;omega,(fun e=>by cases e),by rw[kX];omega,iF h.dep h2,h.wM.snoc h3,by rw[eW,h.ok,h4];rfl⟩
theorem DL.pair{q d P:Nat}{l:List aa}{u x:aa}(h:DL true q d P l)(hu:bL u)(hx:qD d P x):DL true (q+1) d P ((l++[u])++[x]):=by
 obtain⟨h1,h2,h3,h4⟩:=hx;obtain⟨hl,hn⟩:=h.two rfl;obtain⟨hp1,hd1⟩:=uG hu;have hm:(q+1)*(26+P)=q*(26+P)+(26+P):=Nat.succ_mul _ _;have hp:=h.pot;refine⟨by simp;omega,fun _=>⟨by simp;omega,fun i hi he=> ?_⟩,by rw[kX,kX];omega,iF (iF h.dep (by omega)) h2,(h.wM.snoc hu.wM).snoc h3,by rw[eW,eW,h.ok,h4,hu.qJ];rfl⟩;simp only[List.length_append,List.length_singleton] at hi;by_cases h5:i<l.length;·rw[List.getElem_append_left (by simp;omega),List.getElem_append_left h5];exact hn i h5 he
 ·have e:i=l.length:=by omega
  subst e;rw[List.getElem_append_left (by simp),List.getElem_append_right (Nat.le_refl _)];simpa using hu
theorem DL.list{q d P:Nat}{l:List aa}(h:DL false q d P l)(hq:q≤3):qD (d+1) (78+3*P) ⟨9,0,0,.empty,l⟩:=by
 have hm:q*(26+P)≤3*(26+P):=Nat.mul_le_mul_right _ hq;have hp:=h.pot;refine⟨?_,by rw[dz];exact h.dep,fq.of (fun e=>by simp at e) h.wM,by rw[bG,h.ok];rfl⟩;rw[aU];simp;omega
theorem DL.map{q d P:Nat}{l:List aa}(h:DL true q d P l)(hq:q≤3):qD (d+1) (78+3*P) ⟨10,0,0,.empty,l⟩:=by
 have hm:q*(26+P)≤3*(26+P):=Nat.mul_le_mul_right _ hq;have hp:=h.pot;obtain⟨hl,hn⟩:=h.two rfl;refine⟨?_,by rw[dz];exact h.dep,fq.of (fun e=>⟨by show l.length≤6;omega,hn⟩) h.wM,?_⟩;·rw[aU];simp;omega
 ·rw[bG,h.ok];have e:ae ⟨10,0,0,.empty,l⟩=true:=by unfold ae;simp;omega
  rw[e];rfl
theorem qD.tag{d P:Nat}{x:aa}{n:Int}(h:qD d P x)(h0:0≤n)(h1:n≤300):qD (d+1) (78+3*P) ⟨11,n,0,.empty,[x]⟩:=by
 obtain⟨k1,k2,k3,k4⟩:=h;refine⟨?_,?_,fq.of (fun e=>by simp at e) (gg.snoc (l:=[]) gg.nil k3),?_⟩;·rw[aU];simp[potL];omega
 ·rw[dz];exact iF (l:=[]) (by simp[depL]) k2
 ·rw[bG];have e:ae ⟨11,n,0,.empty,[x]⟩=true:=by unfold ae;simp;omega
  rw[e];simp[valsOkP,k4]
theorem kz:(Tryz.prog.info? 5).map (fun i=>(i.zero,i.size,i.bytes))=some (some (.int .u8 0),1,1):=by
 kernel_rfl
theorem iQ: ∀(w:World)(F:List Nat)(a:UInt8)(cs:List Value),aG.rp w F a cs→F=[]:=fun _ _ _ _ h=>h.1
theorem ow{x:Int}(h0:0≤x)(h1:x≤255):((byteOf x).toNat:Int)=x:=by
 rw[fi];omega
theorem sG(w:World): ∀(es:List Int),(∀e∈es,0≤e∧e≤255)→aH w (es.map byteOf) [] (es.map (Value.int .u8))|[],_=>⟨rfl,rfl⟩|e::es,h=>⟨[],[],[.int .u8 e],es.map (Value.int .u8),rfl,rfl,⟨rfl,by rw[ow (h e (List.mem_cons_self ..)).1 (h e (List.mem_cons_self ..)).2]⟩,sG w es fun x hx=>h x (List.mem_cons_of_mem _ hx)⟩
theorem qm(W:World)(t:TypeId)(es:List Int)(n:Nat)(hn:n=es.length)(h: ∀e∈es,0≤e∧e≤255)(hm:es.length≤1000):SA (W.alloc (.cells (es.map (Value.int .u8)).toArray t)) (es.map byteOf) (some ⟨W.heap.size,0,none⟩) n:=by
 subst hn;refine⟨[W.heap.size],⟨by simp,by unfold maxLen;omega,.inr ⟨_,_,[],_,rfl,rfl,sG _ es h,fun j v hj=> ?_⟩⟩,fun b hb=>by simp at hb;subst hb;simp⟩;have:=(ah.new W t (es.map (Value.int .u8)).toArray).cell j;rw[Nat.zero_add,this];simpa using hj
def eQ(n:Int):Bool:=decide (0≤n∧n≤1114111)&& !decide (55296≤n∧n≤57343)
def dr(n:Int):Int:=if eQ n then(if n<128 then 1 else if n<2048 then 2 else if n<65536 then 3 else 4) else 0
def pT(n:Int):List Int:=if dr n=1 then[n] else if dr n=2 then[192+n/64,128+n%64] else if dr n=3 then[224+n/4096,128+n/64%64,128+n%64] else if dr n=4 then[240+n/262144,128+n/4096%64,128+n/64%64,128+n%64] else[]
def iV(n:Int):List UInt8:=(pT n).map byteOf
theorem uj(n:Int):(iV n).length≤4:=by
 unfold iV pT;rw[List.length_map];repeat' split
 all_goals simp
theorem mF{n:Int}:eQ n=true↔(0≤n∧n≤1114111)∧ ¬(55296≤n∧n≤57343):=by
 unfold eQ;simp;omega
theorem de(n:Int)(w:World):Calls Tryz.prog 281 #[.int .i64 n] w (cd w (.bool (eQ n))):=by
 by_cases h1:0≤n∧n≤1114111
 ·have hd1:decide (0≤n∧n≤1114111)=true:=decide_eq_true h1;obtain⟨b,hb⟩: ∃b,b=decide (55296≤n∧n≤57343):=⟨_,rfl⟩;have hR:eQ n= !b:=by unfold eQ;rw[hd1,hb];rfl
  rw[hR];have HH:=xQ (xP hd1 hb);clear hd1 hb hR;go_enter Tryz.func281,Tryz.ntmps281;go_wp2_with fail;refine(aR _ _ _ _).mono ?_;rintro e w1 ⟨rfl,hb1⟩;rw[HH.out.1];have B1:=xQ hb1;clear hb1;go_wp2_with fail;refine(aR _ _ _ _).mono ?_;rintro e w2 ⟨rfl,hb2⟩;rw[←HH.out.2];have B2:=xQ (al B1.out hb2);clear hb2;go_wp2_with fail;go_ret;exact⟨rfl,B2.out⟩
 ·have hd1:decide (0≤n∧n≤1114111)=false:=decide_eq_false h1;have hR:eQ n=false:=by unfold eQ;rw[hd1];rfl
  rw[hR];have HH:=xQ hd1;clear hd1 hR;go_enter Tryz.func281,Tryz.ntmps281;go_wp2_with fail;refine(aR _ _ _ _).mono ?_;rintro e w1 ⟨rfl,hb1⟩;rw[HH.out];have B1:=xQ hb1;clear hb1;go_wp2_with fail;go_ret;exact⟨rfl,B1.out⟩
theorem mx(n:Int)(w:World):Calls Tryz.prog 246 #[.int .i64 n] w (cd w (.int .i64 (dr n))):=by
 obtain⟨r,hr⟩: ∃r,r=dr n:=⟨_,rfl⟩;rw[←hr];unfold dr at hr;cases hk:eQ n with|false=>rw[hk] at hr;(have hr2:r=0:=by rw[hr];rfl);have HH:=xQ (xP hk hr2);clear hk hr hr2;go_enter Tryz.func246,Tryz.ntmps246;go_wp2_with fail;refine(de _ _).mono ?_;rintro e w1 ⟨rfl,hb1⟩;rw[HH.out.1];have B1:=xQ hb1;clear hb1;go_wp2_with fail;go_ret;exact⟨by rw[HH.out.2];rfl,B1.out⟩|true=>rw[hk,if_pos rfl] at hr;by_cases h1:n<128;(·(have hr2:r=1:=by rw[hr,if_pos h1]);have HH:=xQ (xP hk hr2);clear hk hr hr2;go_enter Tryz.func246,Tryz.ntmps246;go_wp2_with fail;refine(de _ _).mono ?_;rintro e w1 ⟨rfl,hb1⟩;rw[HH.out.1];have B1:=xQ hb1;clear hb1;go_wp2_with fail;go_ret;exact⟨by rw[HH.out.2];rfl,B1.out⟩);·rw[if_neg h1] at hr;by_cases h2:n<2048;(·(have hr2:r=2:=by rw[hr,if_pos h2]);have HH:=xQ (xP hk hr2);clear hk hr hr2;go_enter Tryz.func246,Tryz.ntmps246;go_wp2_with fail;refine(de _ _).mono ?_;rintro e w1 ⟨rfl,hb1⟩;rw[HH.out.1];have B1:=xQ hb1;clear hb1;go_wp2_with fail;go_ret;exact⟨by rw[HH.out.2];rfl,B1.out⟩);·rw[if_neg h2] at hr;by_cases h3:n<65536;(·(have hr2:r=3:=by rw[hr,if_pos h3]);have HH:=xQ (xP hk hr2);clear hk hr hr2;go_enter Tryz.func246,Tryz.ntmps246;go_wp2_with fail;refine(de _ _).mono ?_;rintro e w1 ⟨rfl,hb1⟩;rw[HH.out.1];have B1:=xQ hb1;clear hb1;go_wp2_with fail;go_ret;exact⟨by rw[HH.out.2];rfl,B1.out⟩);·(have hr2:r=4:=by rw[hr,if_neg h3]);have HH:=xQ (xP hk hr2);clear hk hr hr2;go_enter Tryz.func246,Tryz.ntmps246;go_wp2_with fail;refine(de _ _).mono ?_;rintro e w1 ⟨rfl,hb1⟩;rw[HH.out.1];have B1:=xQ hb1;clear hb1;go_wp2_with fail;go_ret;exact⟨by rw[HH.out.2];rfl,B1.out⟩
theorem mv(n:Int):(dr n=0∧pT n=[])∨(dr n=1∧0≤n∧n≤127∧pT n=[n])∨(dr n=2∧128≤n∧n≤2047∧pT n=[192+n/64,128+n%64])∨(dr n=3∧2048≤n∧n≤65535∧pT n=[224+n/4096,128+n/64%64,128+n%64])∨(dr n=4∧65536≤n∧n≤1114111∧pT n=[240+n/262144,128+n/4096%64,128+n/64%64,128+n%64]):=by
 unfold pT;generalize hW:dr n=W;unfold dr at hW;cases hk:eQ n with|false=>rw[hk] at hW;simp at hW;subst hW;left;exact⟨rfl,rfl⟩|true=>have h1:=(mF.1 hk).1;rw[hk,if_pos rfl] at hW;right;split at hW;(·subst hW;left;exact⟨rfl,by omega,by omega,rfl⟩);·right;split at hW;(·subst hW;left;exact⟨rfl,by omega,by omega,rfl⟩);·right;split at hW;(·subst hW;left;exact⟨rfl,by omega,by omega,rfl⟩);·subst hW;right;exact⟨rfl,by omega,by omega,rfl⟩
theorem l6(b:List UInt8)(n:Int)(A:Option Addr)(c:Nat)(w:World)(hn:b.length≤1048576)(hI:aX n)(hb:SA w b A c):Calls Tryz.prog 237 #[.slice A b.length c,.int .i64 n] w (xm w (b++iV n)):=by
 have hi1:=hI.1;have hi2:=hI.2;clear hI;obtain⟨r,hr⟩: ∃r,r=b++iV n:=⟨_,rfl⟩;rw[←hr];unfold iV at hr;have HR0:=xQ hr;clear hr;have E:=xQ hb;clear hb;go_enter Tryz.func237,Tryz.ntmps237;go_wp2_with(at_builtin;(refine az rfl _ _ 22 rfl (v:=.slice (some ⟨_,0,none⟩) 0 0) (u:=.slice A b.length c) rfl rfl (aK iQ 22 _ w.heap.size 5 (.int .u8 0) 1 Tryz.underlying22 kz rfl (by decide) _ [] b A c (aC.cX _ _ _ _ (by simp) (by omega)) (E.out.below (ab (af w) _)) (by simp;omega) (by simp;unfold maxLen;omega) (by simp)) ?_;rintro v1 w1 ⟨ho,hbl,hloc,hg⟩;rw[List.nil_append] at ho;obtain⟨A1,c1,rfl⟩:=ho.form;have HO:=xQ (xP ho ((ab (af w) _).trans hbl));clear ho hbl hloc hg));refine(mx n w1).mono ?_;rintro e w2 ⟨rfl,hb2⟩;have HO2:=xQ (xP (HO.out.1.below hb2) (al HO.out.2 hb2));clear hb2;have hz2:w.heap.size≤w2.heap.size:=HO2.out.2.size;rcases mv n with⟨hw,he⟩|⟨hw,h1,h2,he⟩|⟨hw,h1,h2,he⟩|⟨hw,h1,h2,he⟩|⟨hw,h1,h2,he⟩;·rw[hw];have hr:=HR0.out;rw[he] at hr;simp only[List.map_nil,List.append_nil] at hr;have HR:=xQ hr;clear hr hw he;go_wp2_with fail;go_ret;exact⟨A1,c1,by rw[HR.out];rfl,by rw[HR.out];exact HO2.out.1.sf.2,HO2.out.2⟩
 ·rw[hw];have hr:=HR0.out;rw[he] at hr;have hes: ∀e∈([n]:List Int),0≤e∧e≤255:=by intro e hm;simp only[List.mem_cons,List.mem_nil_iff,or_false] at hm;omega
  have HR:=xQ (xP hr hes);clear hr hw he hes;go_wp2_with(at_builtin;(refine az rfl _ _ 22 rfl (v:=.slice A1 b.length c1) (u:=.slice (some ⟨w2.heap.size,0,none⟩) 1 1) (by rfl) (by rfl) (aK iQ 22 _ w.heap.size 5 (.int .u8 0) 1 Tryz.underlying22 kz rfl (by decide) _ b (([n]:List Int).map byteOf) _ _ (HO2.out.1.alloc _) (qm w2 _ [n] 1 rfl HR.out.2 (by simp)) (by simp;omega) (by simp;unfold maxLen;omega) (by simp;omega)) ?_;rintro v3 w3 ⟨ho,hbl,hloc,hg⟩;rw[←HR.out.1] at ho;obtain⟨A3,c3,rfl⟩:=ho.form;have HO3:=xQ (xP ho (HO2.out.2.trans (Below.trans ((Below.refl _ _).alloc hz2 _) hbl)));clear ho hbl hloc hg));go_ret;exact⟨A3,c3,rfl,HO3.out.1.sf.2,HO3.out.2⟩
 ·rw[hw];have hr:=HR0.out;rw[he] at hr;have hes: ∀e∈([192+n/64,128+n%64]:List Int),0≤e∧e≤255:=by intro e hm;simp only[List.mem_cons,List.mem_nil_iff,or_false] at hm;omega
  have HR:=xQ (xP hr hes);clear hr hw he hes;go_wp2_with(at_builtin;(refine az rfl _ _ 22 rfl (v:=.slice A1 b.length c1) (u:=.slice (some ⟨w2.heap.size,0,none⟩) 2 2) (by rfl) (by rfl) (aK iQ 22 _ w.heap.size 5 (.int .u8 0) 1 Tryz.underlying22 kz rfl (by decide) _ b (([192+n/64,128+n%64]:List Int).map byteOf) _ _ (HO2.out.1.alloc _) (qm w2 _ [192+n/64,128+n%64] 2 rfl HR.out.2 (by simp)) (by simp;omega) (by simp;unfold maxLen;omega) (by simp;omega)) ?_;rintro v3 w3 ⟨ho,hbl,hloc,hg⟩;rw[←HR.out.1] at ho;obtain⟨A3,c3,rfl⟩:=ho.form;have HO3:=xQ (xP ho (HO2.out.2.trans (Below.trans ((Below.refl _ _).alloc hz2 _) hbl)));clear ho hbl hloc hg));go_ret;exact⟨A3,c3,rfl,HO3.out.1.sf.2,HO3.out.2⟩
 ·rw[hw];have hr:=HR0.out;rw[he] at hr;have hes: ∀e∈([224+n/4096,128+n/64%64,128+n%64]:List Int),0≤e∧e≤255:=by intro e hm;simp only[List.mem_cons,List.mem_nil_iff,or_false] at hm;omega
  have HR:=xQ (xP hr hes);clear hr hw he hes;go_wp2_with(at_builtin;(refine az rfl _ _ 22 rfl (v:=.slice A1 b.length c1) (u:=.slice (some ⟨w2.heap.size,0,none⟩) 3 3) (by rfl) (by rfl) (aK iQ 22 _ w.heap.size 5 (.int .u8 0) 1 Tryz.underlying22 kz rfl (by decide) _ b (([224+n/4096,128+n/64%64,128+n%64]:List Int).map byteOf) _ _ (HO2.out.1.alloc _) (qm w2 _ [224+n/4096,128+n/64%64,128+n%64] 3 rfl HR.out.2 (by simp)) (by simp;omega) (by simp;unfold maxLen;omega) (by simp;omega)) ?_;rintro v3 w3 ⟨ho,hbl,hloc,hg⟩;rw[←HR.out.1] at ho;obtain⟨A3,c3,rfl⟩:=ho.form;have HO3:=xQ (xP ho (HO2.out.2.trans (Below.trans ((Below.refl _ _).alloc hz2 _) hbl)));clear ho hbl hloc hg));go_ret;exact⟨A3,c3,rfl,HO3.out.1.sf.2,HO3.out.2⟩
 ·rw[hw];have hr:=HR0.out;rw[he] at hr;have hes: ∀e∈([240+n/262144,128+n/4096%64,128+n/64%64,128+n%64]:List Int),0≤e∧e≤255:=by intro e hm;simp only[List.mem_cons,List.mem_nil_iff,or_false] at hm;omega
  have HR:=xQ (xP hr hes);clear hr hw he hes;go_wp2_with(at_builtin;(refine az rfl _ _ 22 rfl (v:=.slice A1 b.length c1) (u:=.slice (some ⟨w2.heap.size,0,none⟩) 4 4) (by rfl) (by rfl) (aK iQ 22 _ w.heap.size 5 (.int .u8 0) 1 Tryz.underlying22 kz rfl (by decide) _ b (([240+n/262144,128+n/4096%64,128+n/64%64,128+n%64]:List Int).map byteOf) _ _ (HO2.out.1.alloc _) (qm w2 _ [240+n/262144,128+n/4096%64,128+n/64%64,128+n%64] 4 rfl HR.out.2 (by simp)) (by simp;omega) (by simp;unfold maxLen;omega) (by simp;omega)) ?_;rintro v3 w3 ⟨ho,hbl,hloc,hg⟩;rw[←HR.out.1] at ho;obtain⟨A3,c3,rfl⟩:=ho.form;have HO3:=xQ (xP ho (HO2.out.2.trans (Below.trans ((Below.refl _ _).alloc hz2 _) hbl)));clear ho hbl hloc hg));go_ret;exact⟨A3,c3,rfl,HO3.out.1.sf.2,HO3.out.2⟩
end Go.Proofs.YtodpdjehjllhdaaGreatDoor
