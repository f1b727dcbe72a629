/- Part of a proof: contracts and plain laws. -/
import Derived.Test.YtodpdjehjllhdaaGreatDoorW11
import Derived.Lib.AppendStr
set_option linter.unusedVariables false
set_option linter.unusedSimpArgs false
set_option maxRecDepth 100000
set_option maxHeartbeats 20000000
namespace Go.Proofs.YtodpdjehjllhdaaGreatDoor
open Go.RowKit
theorem sM:(Tryz.prog.info? 3).map (fun i=>(i.zero,i.size,i.bytes))=some (some (.int .i64 0),1,8):=by
 kernel_rfl
def lf(way:Int)(v:aa):Prop:= ∀(p:List GStep)(A A':Option Addr)(c c':Nat)(w:World),valOkP v=true→fU v→potG v≤10000→p.length+depG v≤1000→bq v→SA w v.l A c→SA w p A' c'→Calls Tryz.prog 184 #[.int .i64 way,.agg #[.int .i64 v.kind,.int .i64 v.n,.int .i64 v.x,.string v.s,.slice A v.l.length c],.slice A' p.length c'] w (jb 62 w (projP way v p).1 (projP way v p).2)
def zJ(w:World)(cs:List ah)(e:Ending)(w':World):Prop:= ∃A1 c1 A2 c2 A3 c3,(∃g,A2=some ⟨g,0,none⟩)∧e=.returned (.tuple #[.slice A1 (cs.map ah.name).length c1,.slice A2 (cs.flatMap (·.nl)).length c2,.slice A3 (eN cs (cs.length+1)).length c3])∧SB w.heap.size w' (cs.map ah.name) A1 c1∧SB w.heap.size w' (cs.flatMap (·.nl)) A2 c2∧SB w.heap.size w' (eN cs (cs.length+1)) A3 c3∧Below w.heap.size w w'
theorem yv{way:Int}{l:List aa}{p:List GStep}{i:Nat}(h:i<(bX way l p).length)(h0:2*i<l.length)(h1:2*i+1<l.length)(hN:bN l[2*i]):(bX way l p)[i].nl.length≤1:=by
 cases hw:bn way with|true=>rw[(iG h h0 h1 hw).2];split<;>simp|false=>rw[(gF h h0 h1 hw).2,hN.same (by rw[hw];simp)];simp
theorem tZ: ∀(cs:List ah)(i:Nat),(∀c∈cs,c.nl.length≤1)→((cs.take i).flatMap (·.nl)).length≤cs.length|[],i,_=>by simp|c::cs,0,_=>by simp|c::cs,i+1,h=>by have:=tZ cs i fun d hd=>h d (by simp[hd]);have:=h c (by simp);rw[List.take_succ_cons,List.flatMap_cons,List.length_append,List.length_cons];omega
theorem pO(way:Int)(hw:1≤way∧way≤4)(v:aa)(hk:v.kind=10)(hok:valOkP v=true)(hn:fU v)(hpot:potG v≤10000)(IH: ∀i(hi:i<v.l.length),lf way v.l[i])(p:List GStep)(A A':Option Addr)(c c':Nat)(w:World)(hd:p.length+depG v≤1000)(hx:SA w v.l A c)(hp:SA w p A' c'):Calls Tryz.prog 202 #[.int .i64 way,.agg #[.int .i64 v.kind,.int .i64 v.n,.int .i64 v.x,.string v.s,.slice A v.l.length c],.slice A' p.length c'] w (zJ w (bX way v.l p)):=by
 obtain⟨ho,hl⟩:=aQ hok;obtain⟨hev,heven⟩:=dP ho hk;obtain⟨h6,hnm⟩:=hn.own hk;obtain⟨n,hn2⟩: ∃n,v.l.length=2*n:=⟨v.l.length/2,by omega⟩;have hcl:(bX way v.l p).length=n:=by rw[cV];omega
 have hnl: ∀c∈bX way v.l p,c.nl.length≤1:=fun d hd=>by obtain⟨i,hi,e⟩:=List.getElem_of_mem hd;rw[←e];exact yv hi (by omega) (by omega) (hnm (2*i) (by omega) (by omega))
 obtain⟨cs,hcs⟩: ∃cs,cs=bX way v.l p:=⟨_,rfl⟩;rw[←hcs] at hcl hnl ⊢;have hlost: ∀i,((cs.take i).flatMap (·.nl)).length≤3:=fun i=>by have:=tZ cs i hnl;omega
 have hkid: ∀i(hi:i<v.l.length),valOkP v.l[i]=true∧fU v.l[i]∧potG v.l[i]≤10000∧(p++[(⟨0,true⟩:GStep)]).length+depG v.l[i]≤1000:=fun i hi=>by refine⟨bB hl hi,hn.sub.at (List.getElem_mem hi),?_,?_⟩;(·have:=fc (List.getElem_mem hi);rw[aR] at hpot;omega);·have:=dB (v:=v) (List.getElem_mem hi);simp;omega
 have HH:=AJ (AH hcs (AH hcl (AH hnl (AH hlost (AH hkid (AH hnm (AH IH (AH hw hn2))))))));have hn3:n≤3:=by omega
 have hpl:p.length≤1000:=by omega
 obtain⟨N,hN⟩: ∃N,N=v.l.length:=⟨_,rfl⟩;have HN:=AJ (AH hN (show N=2*n by omega));rw[←hN];have P0:=AJ (ai.new w 27 #[.int .i64 v.kind,.int .i64 v.n,.int .i64 v.x,.string v.s,.slice A v.l.length c]);have B0:=AJ (ab (ae w) (.cells #[.int .i64 v.kind,.int .i64 v.n,.int .i64 v.x,.string v.s,.slice A v.l.length c] 27));rw[←hN] at P0 B0;have E:=AJ (AH hx hp);clear ho hl hev heven h6 hnm hcs hcl hnl hlost hkid IH hn hok hpot hd hx hp hn2 hN hk;go_enter Tryz.func202,Tryz.ntmps202;go_wp2_with fail;go_loopg[9,10,11,12] n (fun gk s9 s10 s11 s12 wr=> ∃(i I:Nat),i≤n∧I=2*i∧s12=.int .i64 (I:Int)∧gk=n-i∧ai wr w.heap.size 27 #[.int .i64 v.kind,.int .i64 v.n,.int .i64 v.x,.string v.s,.slice A N c]∧dR wr (w.heap.size+1) 27 62 3 s9 s10 s11 ((cs.take i).map ah.name) ((cs.take i).flatMap (·.nl)) (eN cs i)∧(∃g,s10.ownBlock=some g)∧Below w.heap.size w wr);case atStart=>refine⟨0,0,by omega,rfl,rfl,by omega,((P0.out.alloc _).alloc _).alloc _,?_,⟨_,rfl⟩,ab (ab (ab B0.out _) _) _⟩;exact dR.start _ _ _ _ _ _ _ _ (by simp) (by simp) (by simp) (by simp)
 case round=>
  obtain⟨i,I,hi,hI,rfl,rfl,hP0,hrows,hg10,hbel⟩:=hrel;have HG10:=AJ hg10;clear hg10;by_cases hlt:i<n
  ·have hIN:(I:Int)<N:=by have:=HN.out.2;omega
   have hIv:I<v.l.length:=by have:=HN.out;omega
   have hI2:(I:Int)/2=(i:Int):=by omega
   have hI0:(0:Int)≤I:=by omega
   obtain⟨p0,p1,p2,p3,p4⟩:=hP0.c5;obtain⟨eb,eo,eA,ec,hAe,heb,heI,heS,e0,e1,e2,e3,e4⟩:=(E.out.1.below hbel).bI hIv;subst hAe;have hpS:=E.out.2.below hbel;have HW:=AJ (AH hP0 (AH hrows (AH hbel (AH heI (AH heS (AH hpS hI))))));clear hP0 hrows hbel heI heS hpS hI;go_wp2_with fail;refine(cM p ⟨(i:Int),true⟩ A' c' wr (by omega) (by exact⟨by show _≤(i:Int);omega,by show(i:Int)≤_;omega⟩) HW.out.2.2.2.2.2.1).mono ?_;rintro e1x w1 ⟨Aq,cq,rfl,hsq,hb1⟩;obtain⟨q,hq⟩: ∃q,q=p++[(⟨(i:Int),true⟩:GStep)]:=⟨_,rfl⟩;rw[←hq] at hsq ⊢;have hql:q.length≤1001:=by rw[hq];simp;omega
   have Q1:=AJ (HW.out.1.below hb1);have hz1:w.heap.size<w1.heap.size:=Q1.out.lt;have hwr1:wr.heap.size≤w1.heap.size:=hb1.size;have hebr:eb<wr.heap.size:=heb;have hebw:eb<w1.heap.size:=by omega
   have zb:=ig hb1;have e0':=(zb.1 eb _ heb).trans e0;have e1':=(zb.1 eb _ heb).trans e1;have e2':=(zb.1 eb _ heb).trans e2;have e3':=(zb.1 eb _ heb).trans e3;have e4':=(zb.1 eb _ heb).trans e4;have HQ:=AJ (AH hq (AH hsq hb1));have EW:=AJ (AH e0 (AH e1 (AH e2 (AH e3 e4))));clear hq hsq hb1 zb p0 p1 p2 p3 p4 e0 e1 e2 e3 e4;obtain⟨p0,p1,p2,p3,p4⟩:=Q1.out.c5;obtain⟨C,hC⟩: ∃C,C=cs[i]'(by have:=HH.out.2.1;omega):=⟨_,rfl⟩;have hkid:=HH.out.2.2.2.2.1 I hIv;have hNm:=HH.out.2.2.2.2.2.1 I hIv (by have:=HW.out.2.2.2.2.2.2;omega);have hCt:bn way=true→C.name=fj v.l[I]∧C.nl=if v.l[I].kind=7 then[] else[⟨7,q⟩]:=fun ht=>by have e1:=HH.out.1;have e2:=HW.out.2.2.2.2.2.2;have e3:=HH.out.2.2.2.2.2.2.2.2;subst e1 e2;have h:=iG (way:=way) (l:=v.l) (p:=p) (i:=i) (by rw[cV];omega) (by omega) (by omega) ht;rw[hC,HQ.out.1];exact h
   have hCf:bn way=false→C.name=(projP way v.l[I] q).1∧C.nl=(projP way v.l[I] q).2:=fun ht=>by have e1:=HH.out.1;have e2:=HW.out.2.2.2.2.2.2;have e3:=HH.out.2.2.2.2.2.2.2.2;subst e1 e2;have h:=gF (way:=way) (l:=v.l) (p:=p) (i:=i) (by rw[cV];omega) (by omega) (by omega) ht;rw[hC,HQ.out.1];exact h
   obtain⟨U,hU⟩: ∃U,U=v.l[I]:=⟨_,rfl⟩;rw[←hU] at hkid hNm hCt hCf e0' e1' e2' e3' e4';have hIU:=HW.out.2.2.2.1;have hSU:=HW.out.2.2.2.2.1;have hPS:lf way U:=by rw[hU];exact HH.out.2.2.2.2.2.2.1 I hIv
   rw[←hU] at hIU hSU;have hCn:=HH.out.2.2.1 C (by rw[hC];exact List.getElem_mem _);have HC:=AJ (AH hC (AH hkid (AH hNm (AH hCt (AH hCf (AH hU (AH hIU (AH hSU (AH hPS hCn)))))))));clear hC hkid hNm hCt hCf hU hIU hSU hPS hCn;have X0:=AJ ((ai.new w1 27 #[.int .i64 0,.int .i64 0,.int .i64 0,.string .empty,.slice none 0 0]).alloc (.cells #[] 62));have L0:=AJ (aH.qV (α:=ag) (w1.alloc (.cells #[.int .i64 0,.int .i64 0,.int .i64 0,.string .empty,.slice none 0 0] 27)) 62 (w1.heap.size+1) (w1.heap.size+1) (by simp) (by simp));have B2:=AJ (show Below wr.heap.size wr ((w1.alloc (.cells #[.int .i64 0,.int .i64 0,.int .i64 0,.string .empty,.slice none 0 0] 27)).alloc (.cells #[] 62)) from ab (ab HQ.out.2.2 _) _);have B3:=AJ (ab (ab (ae w1) (.cells #[.int .i64 0,.int .i64 0,.int .i64 0,.string .empty,.slice none 0 0] 27)) (.cells #[] 62));go_wp2_with fail;refine(ca way HH.out.2.2.2.2.2.2.2.1 _).mono ?_;rintro e2x w2 ⟨rfl,rfl⟩;obtain⟨T,hT⟩: ∃T,T=bn way:=⟨_,rfl⟩;rw[←hT];have HT:=AJ hT;clear hT;go_upto_if 34 with fail;go_cut[15] from 19 to 79 (fun s15 wx=> ∃(Ax:Option Addr) (cx:Nat),ai wx w1.heap.size 27 #[.int .i64 C.name.kind,.int .i64 C.name.n,.int .i64 C.name.x,.string C.name.s,.slice Ax C.name.l.length cx]∧Hid (SB wr.heap.size wx C.name.l Ax cx∧aH wx (w1.heap.size+1) 62 s15 (if T=true then[] else C.nl)∧Below w1.heap.size w1 wx))
   case first=>
    cases T
    ·have hSU2:=(HC.out.2.2.2.2.2.2.2.1.below HQ.out.2.2).below B3.out;have hSQ2:=HQ.out.2.1.sa.below B3.out;have hBw:=B3.out.size;have HS2:=AJ (AH hSU2 hSQ2);clear hSU2 hSQ2;go_wp2_with fail;refine(HC.out.2.2.2.2.2.2.2.2.1 q eA Aq ec cq _ HC.out.2.1.1 HC.out.2.1.2.1 HC.out.2.1.2.2.1 (by have:=HC.out.2.1.2.2.2;rw[HQ.out.1];simpa using this) HC.out.2.2.2.2.2.2.1 HS2.out.1 HS2.out.2).mono ?_;rintro e3x w3 ⟨A3,c3,v3,rfl,hss3,hob3,hb3⟩;unfold eT;have X3:=AJ (X0.out.below hb3);have hz3:w1.heap.size<w3.heap.size:=X3.out.lt;obtain⟨f0,f1,f2,f3,f4⟩:=X3.out.f5;obtain⟨x0,x1,x2,x3,x4⟩:=X3.out.c5;have hn1:=(HC.out.2.2.2.2.1 HT.out.symm).1;have hn2:=(HC.out.2.2.2.2.1 HT.out.symm).2;rw[←hn2] at hob3;rw[←hn1] at hss3 ⊢;have H3:=AJ (AH (a6.sb hss3) (AH hob3 hb3));clear hss3 hob3 hb3 hn1 hn2;go_wp2_with fail;go_meet;have hsz:((w1.alloc (.cells #[.int .i64 0,.int .i64 0,.int .i64 0,.string .empty,.slice none 0 0] 27)).alloc (.cells #[] 62)).heap.size=w1.heap.size+1+1:=by simp
     refine⟨A3,c3,cj X3.out _ _ _ _ _,AJ ⟨H3.out.1.bF (by rw[hsz];omega) (by rw[hsz];omega) _ _ _ _ _,?_,ax (B3.out.trans (H3.out.2.2.mono (by rw[hsz];omega))) (Nat.le_refl _) _ _ _ _ _⟩⟩;rw[if_neg (by simp)];exact H3.out.2.1.bF (by rw[hsz];omega) (by rw[hsz];omega) _ _ _ _ _
    ·have hSU2:=(HC.out.2.2.2.2.2.2.2.1.below HQ.out.2.2).below B3.out;have hBw:=B3.out.size;have HS2:=AJ hSU2;clear hSU2;go_wp2_with fail;refine(mO U eA ec _ HC.out.2.2.1 HS2.out).mono ?_;rintro e3x w3 ⟨A3,c3,rfl,hsb3,hb3⟩;unfold eT;have X3:=AJ (X0.out.below hb3);have hz3:w1.heap.size<w3.heap.size:=X3.out.lt;obtain⟨f0,f1,f2,f3,f4⟩:=X3.out.f5;obtain⟨x0,x1,x2,x3,x4⟩:=X3.out.c5;have hn1:=(HC.out.2.2.2.1 HT.out.symm).1;rw[←hn1] at hsb3 ⊢;have H3:=AJ (AH hsb3 hb3);clear hsb3 hb3 hn1;go_wp2_with fail;go_meet;have hsz:((w1.alloc (.cells #[.int .i64 0,.int .i64 0,.int .i64 0,.string .empty,.slice none 0 0] 27)).alloc (.cells #[] 62)).heap.size=w1.heap.size+1+1:=by simp
     refine⟨A3,c3,cj X3.out _ _ _ _ _,AJ ⟨H3.out.1.bF (by rw[hsz];omega) (by rw[hsz];omega) _ _ _ _ _,?_,ax (B3.out.trans (H3.out.2.mono (by rw[hsz];omega))) (Nat.le_refl _) _ _ _ _ _⟩⟩;rw[if_pos trivial];exact aH.bF (base':=w1.heap.size+1) (base:=w1.heap.size+1) (L0.out.below H3.out.2) (Nat.lt_succ_self _) (Nat.le_refl _) _ _ _ _ _
   case rest=>
    obtain⟨Ax,cx,hX1,HX1⟩:=hcut;have hBc:=ak HQ.out.2.2 HX1.out.2.2;have hwrc:wr.heap.size≤wc.heap.size:=hBc.size;have zb:=ig hBc;have Qc:=AJ (HW.out.1.below hBc);have HBc:=AJ hBc;clear hBc;have hebc:eb<wc.heap.size:=by omega
    have hzc:w.heap.size<wc.heap.size:=Qc.out.lt;have hw1c:w1.heap.size<wc.heap.size:=hX1.lt;rw[←HC.out.2.2.2.2.2.1] at EW;have k0:=(zb.1 eb _ heb).trans EW.out.1;have k1:=(zb.1 eb _ heb).trans EW.out.2.1;have k2:=(zb.1 eb _ heb).trans EW.out.2.2.1;have k3:=(zb.1 eb _ heb).trans EW.out.2.2.2.1;have k4:=(zb.1 eb _ heb).trans EW.out.2.2.2.2;clear zb e0' e1' e2' e3' e4';obtain⟨p0,p1,p2,p3,p4⟩:=Qc.out.c5;obtain⟨x0,x1,x2,x3,x4⟩:=hX1.c5;obtain⟨W3,hW3⟩: ∃W3,W3=wc:=⟨_,rfl⟩;subst hW3;go_upto_region 13 with fail;go_cut[62] from 19 to 79 (fun s62 wx=>s62=.bool (T&&(U.kind != 7))∧wx=W3)
    case first=>
     go_wp2_with fail;refine(ca way HH.out.2.2.2.2.2.2.2.1 _).mono ?_;rintro e2x w2 ⟨rfl,rfl⟩;rw[←HT.out];cases T;·go_wp2_with fail;go_meet;exact⟨rfl,rfl⟩
     ·go_wp2_with fail;go_meet;exact⟨rfl,rfl⟩
    case rest=>
     obtain⟨hs62,hwx⟩:=hcut;have hwx':=hwx.symm;clear hwx;subst hwx';obtain⟨B,hB⟩: ∃B,B=(T&&(U.kind != 7)):=⟨_,rfl⟩;rw[←hB] at hs62;subst hs62;have HBB:=AJ hB;clear hB;go_upto_if 62 with fail;go_cut[15] from 19 to 79 (fun s15 wx=>ai wx w1.heap.size 27 #[.int .i64 C.name.kind,.int .i64 C.name.n,.int .i64 C.name.x,.string C.name.s,.slice Ax C.name.l.length cx]∧Hid (SB wr.heap.size wx C.name.l Ax cx∧aH wx wr.heap.size 62 s15 C.nl∧Below wr.heap.size wr wx))
     case first=>
      cases B
      ·go_wp2_with fail;go_meet;refine⟨hX1,AJ ⟨HX1.out.1,?_,HBc.out⟩⟩;have h0:=aH.mono (base':=wr.heap.size) HX1.out.2.1 (by omega);have hBf:=HBB.out;cases hT0:T;·rw[hT0] at h0;rwa[if_neg (by simp)] at h0
       ·rw[hT0] at h0 hBf;rw[if_pos rfl] at h0;have h7:U.kind=7:=by(have:(U.kind != 7)=false:=by simpa using hBf.symm);simpa using this
        have hcn:=(HC.out.2.2.2.1 (by rw[←HT.out,hT0])).2;rw[if_pos h7] at hcn;rw[hcn];exact h0
      ·have hT1:T=true:=by have h:=HBB.out;cases hT0:T;(·rw[hT0] at h;cases h);·rfl
       have h7: ¬U.kind=7:=by have h:=HBB.out;rw[hT1] at h;(have:(U.kind != 7)=true:=by simpa using h.symm);simpa using this
       have hcn:=(HC.out.2.2.2.1 (by rw[←HT.out,hT1])).2;rw[if_neg h7] at hcn;have h0:=HX1.out.2.1;rw[if_pos hT1] at h0;have hge:=h0.an;have hqs:=(HQ.out.2.1.below HX1.out.2.2).sb;have hq1:SS W3 (fun b=>nw wr.heap.size W3 b∧b<w1.heap.size) q Aq cq:=by obtain⟨F,h1,h2⟩:=HQ.out.2.1;refine⟨F,h1.al fun b hb=>HX1.out.2.2.block b (h2.2 b hb).2.lt,fun b hb=>⟨⟨(h2.2 b hb).1,?_⟩,(h2.2 b hb).2.lt⟩⟩;have:=(h2.2 b hb).2.lt;omega
       have hown:=aH.mono (base':=wr.heap.size) h0 (by omega);have hcl:C.name.l=[]:=by rw[(HC.out.2.2.2.1 (by rw[←HT.out,hT1])).1];unfold fj;split;(·exact HC.out.2.2.1.2.1);·rfl
       have H15:=AJ (AH hown (AH hge (AH hq1 (AH hcn hcl))));clear hown hge hqs hcn h0 h7 hT1 hq1 hcl;go_wp2_with(at_builtin;(refine aw rfl _ _ 43 rfl rfl rfl (nW 43 _ wr.heap.size 62 (.agg #[.int .i64 0,.slice none 0 0]) 32 Tryz.underlying43 bP rfl (by decide) u15 [] ⟨7,q⟩ [.int .i64 7,.slice Aq q.length cq] _ 1 (H15.out.1.below (ab (ae _) _)) (RS.lS (x:=⟨7,q⟩) ⟨by simp,by simp⟩ (SS.al H15.out.2.2.1 (fun b hb=>(ab (ae W3) _).block b hb.1.2) (fun b hb=>⟨⟨hb.1.1,Nat.lt_of_lt_of_le hb.1.2 (ab (ae W3) _).size⟩,fun e=>by have h1:=(H15.out.2.1 b e).1;have h2:=hb.2;omega⟩))) (aJ [_,_] rfl) (by simp) (by unfold maxLen;simp) (by simp;omega)) ?_;rintro v14 w14 ⟨ho14,hb14,_,hg14⟩;have H14:=AJ (AH ho14 (AH hb14 hg14));clear ho14 hb14 hg14));go_meet;refine⟨?_,AJ ⟨?_,?_,?_⟩⟩;·exact ai.grown (hX1.alloc _) H14.out.2.2 (fun e=>by have h1:=(H15.out.2.1 _ e).1;omega)
       ·have h:=HX1.out.1;rw[H15.out.2.2.2.2] at h ⊢;exact SS.yY h
       ·rw[H15.out.2.2.2.1];exact H14.out.1
       ·exact(ab HBc.out _).trans H14.out.2.1
     case rest=>
      obtain⟨hX5,HX5⟩:=hcut;clear hX1 x0 x1 x2 x3 x4 p0 p1 p2 p3 p4 k0 k1 k2 k3 k4 Qc hebc hzc hw1c hwrc HX1 HBB HBc;obtain⟨W5,hW5⟩: ∃W5,W5=wc:=⟨_,rfl⟩;subst hW5;have hz5:w1.heap.size<W5.heap.size:=hX5.lt;obtain⟨x0,x1,x2,x3,x4⟩:=hX5.c5;have hR5:=HW.out.2.1.below HX5.out.2.2;have hlt3:=HW.out.2.1.lt;have hbw:w.heap.size+1≤wr.heap.size:=HW.out.1.lt;have hw5:wr.heap.size≤W5.heap.size:=HX5.out.2.2.size;obtain⟨NM,hNM⟩: ∃NM,NM=(cs.take i).map ah.name:=⟨_,rfl⟩;obtain⟨LS,hLS⟩: ∃LS,LS=(cs.take i).flatMap (·.nl):=⟨_,rfl⟩;obtain⟨FR,hFR⟩: ∃FR,FR=eN cs i:=⟨_,rfl⟩;rw[←hNM,←hLS,←hFR] at hR5;have hLl:LS.length≤3:=by rw[hLS];exact HH.out.2.2.2.1 i
      have hNl:NM.length≤3:=by rw[hNM,List.length_map,List.length_take];omega
      have hFl:FR.length≤3:=by rw[hFR,fE];omega
      have hCl:C.nl.length≤1:=HC.out.2.2.2.2.2.2.2.2.2;obtain⟨A10,c10,e10⟩:=az.form hR5.2.1;subst e10;obtain⟨A15,c15,e15⟩:=HX5.out.2.1.form;subst e15;have hf9:SS W5 (a6 (w.heap.size+1) [u9,.slice A10 LS.length c10,u11] W5) C.name.l Ax cx:=SB.free HX5.out.1 hbw hlt3;have hf15:SS W5 (a6 (w.heap.size+1) [u9,.slice A10 LS.length c10,u11] W5) C.nl A15 c15:=SB.free HX5.out.2.1.sb.2 hbw hlt3;have hVI:bq C.name:=by cases hT0:T;(·have h:=(HC.out.2.2.2.2.1 (by rw[←HT.out,hT0])).1;rw[h,HC.out.2.2.1.same (by rw[←HT.out,hT0];simp)];exact HC.out.2.2.2.2.2.2.1);·rw[(HC.out.2.2.2.1 (by rw[←HT.out,hT0])).1];exact(kv HC.out.2.2.1).int.1
      have hst:=AJ (AH hNM (AH hLS hFR));clear hNM hLS hFR;have H5:=AJ (AH hR5 (AH hf9 (AH hf15 hVI)));clear hR5 hf9 hf15 hVI hlt3;go_wp2_with(at_builtin;(first|((refine aw rfl _ _ 25 rfl rfl rfl (bT [u9,.slice A10 LS.length c10,u11] 25 _ (w.heap.size+1) 27 (.agg #[.int .i64 0,.int .i64 0,.int .i64 0,.string .empty,.slice none 0 0]) 64 Tryz.underlying25 b7 rfl (by decide) u9 NM C.name [.int .i64 C.name.kind,.int .i64 C.name.n,.int .i64 C.name.x,.string C.name.s,.slice Ax C.name.l.length cx] _ 1 (H5.out.1.1.below (ab (ae _) _)) (by simp) (RS.val H5.out.2.2.2 (H5.out.2.1.a8 (ab (ae _) _))) (aJ [_,_,_,_,_] rfl) (by omega) (by unfold maxLen;omega) (by simp;omega)) ?_;rintro v9 w9 ha9;have HA9:=AJ (AH ha9 (AH (dR.tL (H5.out.1.below (ab (ae _) _)) ha9) ((H5.out.2.2.1.a8 (ab (ae _) _)).o8 (vs':=[v9,.slice A10 LS.length c10,u11]) ha9 (by simp) (by simp))));have hz9:=ha9.2.1.size;clear ha9))|((refine aw rfl _ _ 24 rfl rfl rfl (bT [v9,.slice A10 LS.length c10,u11] 24 _ (w.heap.size+1) 3 (.int .i64 0) 8 Tryz.underlying24 sM rfl (by decide) u11 FR (LS.length:Int) [.int .i64 (LS.length:Int)] _ 1 (HA9.out.2.1.2.2.1.below (ab (ae _) _)) (by simp) (RS.int ⟨by omega,by omega⟩) (aJ [_] rfl) (by omega) (by unfold maxLen;omega) (by simp at hz9 ⊢;omega)) ?_;rintro v11 w11 ha11;have HA11:=AJ (AH ha11 (AH (dR.zt (HA9.out.2.1.below (ab (ae _) _)) ha11) ((HA9.out.2.2.a8 (ab (ae _) _)).o8 (vs':=[v9,.slice A10 LS.length c10,v11]) ha11 (by simp) (by simp))));have hz11:=ha11.2.1.size;clear ha11))|((refine aw rfl _ _ 43 rfl rfl rfl (ew [v9,.slice A10 LS.length c10,v11] 43 _ (w.heap.size+1) 62 (.agg #[.int .i64 0,.slice none 0 0]) 32 Tryz.underlying43 bP rfl (by decide) (.slice A10 LS.length c10) LS C.nl A15 C.nl.length c15 rfl HA11.out.2.1.2.1 (by simp) HA11.out.2.2 (by omega) (by unfold maxLen;omega) (by simp at hz9 hz11 ⊢;omega)) ?_;rintro v10 w12 ha12;have HA12:=AJ (AH ha12 (dR.nf HA11.out.2.1 ha12));clear ha12))));go_roundg(n-(i+1));case measure=>omega
      case rel=>
       have hcl:i<cs.length:=by rw[HH.out.2.1];exact hlt
       refine⟨i+1,I+2,by omega,by have:=HW.out.2.2.2.2.2.2;omega,by first|rfl|go_num,rfl,?_,?_,?_,?_⟩;·exact(((((HW.out.1.below HX5.out.2.2).alloc _).aF HA9.out.1.2.1 (Nat.lt_succ_self _)).alloc _).aF HA11.out.1.2.1 (Nat.lt_succ_self _)).aF HA12.out.1.2.1 (Nat.lt_succ_self _)
       ·have h:=HA12.out.2;rw[hst.out.1,hst.out.2.1,hst.out.2.2,HC.out.1] at h;rw[tN hcl,qw hcl,nV];exact h
       ·rcases HA12.out.1.2.2.1 with e|e;·rw[e];exact HG10.out
        ·exact⟨_,e⟩
       ·exact(((ab ((ab (ak HW.out.2.2.1 HX5.out.2.2) _).trans (HA9.out.1.2.1.mono (by omega))) _).trans (HA11.out.1.2.1.mono (by omega))).trans (HA12.out.1.2.1.mono (by omega)))
  ·have e:i=n:=by omega
   have hIN: ¬(I:Int)<N:=by have:=HN.out.2;omega
   obtain⟨p0,p1,p2,p3,p4⟩:=hP0.c5;rw[List.take_of_length_le (by rw[HH.out.2.1];omega)] at hrows;rw[e] at hrows;obtain⟨LS,hLS⟩: ∃LS,LS=cs.flatMap (·.nl):=⟨_,rfl⟩;have hLl:LS.length≤3:=by have h:=HH.out.2.2.2.1 n;rw[List.take_of_length_le (by rw[HH.out.2.1];omega)] at h;rw[hLS];exact h
   rw[←hLS] at hrows;have hNl:(cs.map ah.name).length≤3:=by rw[List.length_map,HH.out.2.1];omega
   have hFl:(eN cs n).length≤3:=by rw[fE];omega
   obtain⟨A9,c9,e9⟩:=az.form hrows.1;obtain⟨A10,c10,e10,hA10⟩:=az.uD hrows.2.1;subst e9 e10;have HA10:=AJ (show ∃g,A10=some ⟨g,0,none⟩ from by rcases hA10 with⟨h1,h2⟩|h;(·obtain⟨g,hg⟩:=HG10.out;rw[h1] at hg;simp[Value.ownBlock] at hg);·exact h);clear hA10;have hzw:=hP0.lt;have HW:=AJ (AH hrows (AH hbel hLS));clear hrows hbel hP0 hLS;go_wp2_with(at_builtin;(first|((refine aw rfl _ _ 24 rfl rfl rfl (bT [.slice A9 (cs.map ah.name).length c9,.slice A10 LS.length c10,u11] 24 _ (w.heap.size+1) 3 (.int .i64 0) 8 Tryz.underlying24 sM rfl (by decide) u11 (eN cs n) (LS.length:Int) [.int .i64 (LS.length:Int)] _ 1 (HW.out.1.2.2.1.below (ab (ae _) _)) (by simp) (RS.int ⟨by omega,by omega⟩) (aJ [_] rfl) (by omega) (by unfold maxLen;omega) (by simp;omega)) ?_;rintro v11 w11 ha11;have HA11:=AJ (AH ha11 (dR.zt (HW.out.1.below (ab (ae _) _)) ha11));clear ha11))));have hfp:eN cs n++[(LS.length:Int)]=eN cs (cs.length+1):=by rw[HH.out.2.1,nV,HW.out.2.2];congr 4;rw[List.take_of_length_le (by rw[HH.out.2.1];omega)]
   have hr:=HA11.out.2;rw[hfp,HW.out.2.2] at hr;obtain⟨A11,c11,e11⟩:=az.form hr.2.2.1;refine bodyPost_ret (v:=.tuple #[.slice A9 (cs.map ah.name).length c9,.slice A10 LS.length c10,v11]) (by simp[results,Tryz.results202,go_sem, *]<;>rfl) rfl ?_;subst e11;have b1:=hr.1.cO.sb;have b2:=hr.2.1.cO;rw[←HW.out.2.2] at b2;refine⟨A9,c9,A10,c10,A11,c11,HA10.out,by rw[HW.out.2.2],b1.2.mono (by omega),?_,hr.2.2.1.cO.sb.2.mono (by omega),(ab HW.out.2.1 _).trans (HA11.out.1.2.1.mono (by omega))⟩;have b3:=b2.sb.2.mono (base':=w.heap.size) (by omega);rw[HW.out.2.2] at b3;exact b3
theorem nJ(s:ByteArray):(s.toList==s.toList)=true:=by
 simp
theorem lY{s t:ByteArray}(h:s≠t):(s.toList==t.toList)=false:=by
 rw[yO];simpa using h
theorem gu{l l':List aa}{k:Nat}(h:k<l.length)(h':k<l'.length)(ht:l.take k=l'.take k)(e:l[k]=l'[k]):l.take (k+1)=l'.take (k+1):=by
 rw[List.take_succ_eq_append_getElem h,List.take_succ_eq_append_getElem h',ht,e]
def yx(v:aa):Prop:= ∀(u:aa)(A A':Option Addr)(c c':Nat)(w:World),SA w v.l A c→SA w u.l A' c'→Calls Tryz.prog 72 #[.agg #[.int .i64 v.kind,.int .i64 v.n,.int .i64 v.x,.string v.s,.slice A v.l.length c],.agg #[.int .i64 u.kind,.int .i64 u.n,.int .i64 u.x,.string u.s,.slice A' u.l.length c']] w (bW w (.bool (decide (v=u))))
theorem jv(v:aa):yx v:=by
 refine aa.ind (p:=yx) (fun v IH=> ?_) v;intro u A A' c c' w hx hy;have hl:v.l.length≤9223372036854775807:=by have:=hx.len;unfold maxLen at this;omega
 have hl':u.l.length≤9223372036854775807:=by have:=hy.len;unfold maxLen at this;omega
 obtain⟨r,hr⟩: ∃r,r=decide (v=u):=⟨_,rfl⟩;rw[←hr];have HR:=AJ hr;clear hr;obtain⟨k,n,x,s,l⟩:=v;obtain⟨k',n',x',s',l'⟩:=u;simp only at hx hy hl hl' IH;have IH':=AJ IH;clear IH;have E:=AJ (AH hx hy);clear hx hy;have B0:=AJ (ab (ab (ae w) (.cells #[.int .i64 k,.int .i64 n,.int .i64 x,.string s,.slice A l.length c] 27)) (.cells #[.int .i64 k',.int .i64 n',.int .i64 x',.string s',.slice A' l'.length c'] 27));have P0:=AJ ((ai.new w 27 #[.int .i64 k,.int .i64 n,.int .i64 x,.string s,.slice A l.length c]).alloc (.cells #[.int .i64 k',.int .i64 n',.int .i64 x',.string s',.slice A' l'.length c'] 27));have P1:=AJ (ai.at (w:=w.alloc (.cells #[.int .i64 k,.int .i64 n,.int .i64 x,.string s,.slice A l.length c] 27)) (g:=w.heap.size+1) (t:=27) (cs:=#[.int .i64 k',.int .i64 n',.int .i64 x',.string s',.slice A' l'.length c']) (by simp));by_cases h1:k=k'
 ·subst h1;by_cases h2:n=n'
  ·subst h2;by_cases h3:x=x'
   ·subst h3;by_cases h4:s=s'
    ·subst h4;have hs1:=nJ s;by_cases h5:l.length=l'.length
     ·have h5':((l.length:Int) != l'.length)=false:=by simp[h5]
      have H5:=AJ h5;clear h5;go_enter Tryz.func72,Tryz.ntmps72;go_wp2_with fail;go_loopg[5] l.length (fun gk i wr=> ∃(j:Nat),j≤l.length∧i=.int .i64 j∧gk=l.length-j∧Hid (l.take j=l'.take j)∧ai wr w.heap.size 27 #[.int .i64 k,.int .i64 n,.int .i64 x,.string s,.slice A l.length c]∧ai wr (w.heap.size+1) 27 #[.int .i64 k,.int .i64 n,.int .i64 x,.string s,.slice A' l'.length c']∧Below w.heap.size w wr);case atStart=>exact⟨0,by omega,rfl,by omega,rfl,P0.out,P1.out,B0.out⟩
      case round=>
       obtain⟨j,hj,rfl,rfl,hT,hP0,hP1,hbel⟩:=hrel;by_cases hlt:j<l.length
       ·have hlt':j<l'.length:=H5.out▸hlt;obtain⟨b,off,A1,c1,rfl,hb,hI,hs,k0,k1,k2,k3,k4⟩:=(E.out.1.below hbel).bI hlt;obtain⟨b',off',A2,c2,rfl,hb',hI',hs',q0,q1,q2,q3,q4⟩:=(E.out.2.below hbel).bI hlt';have hz0:=hP0.lt;have hz1:=hP1.lt;obtain⟨p0,p1,p2,p3,p4⟩:=hP0.c5;obtain⟨r0,r1,r2,r3,r4⟩:=hP1.c5;have hi1:(j:Int)<l.length:=by omega
        have hi2:(j:Int)<l'.length:=by omega
        have hi3:(0:Int)≤j:=by omega
        have HS:=AJ (AH hs hs');clear hs hs' hI hI';rcases Decidable.em (l[j]=l'[j]) with hq|hq
        ·have HQ:=AJ hq;clear hq;go_wp2_with fail;go_still_tail 10,(by kernel_rfl);change wpList _ _ _ _ _ wr.drew;go_wp2_with fail;refine(IH'.out j hlt l'[j] A1 A2 c1 c2 _ HS.out.1.drew HS.out.2.drew).mono ?_;rintro e w1 ⟨rfl,hb1⟩;rw[decide_eq_true HQ.out];have HB:=AJ hb1;clear hb1;go_wp2_with fail;go_roundg(l.length-(j+1));case measure=>omega
         case rel=>exact⟨j+1,by omega,by go_num,rfl,gu hlt hlt' hT.out HQ.out,hP0.drew.below HB.out,hP1.drew.below HB.out,ak hbel.drew HB.out⟩
        ·have HQ:=AJ hq;clear hq;have hr0:r=false:=by rw[HR.out];simp only[decide_eq_false_iff_not];intro e;injection e with _ _ _ _ e;subst e;exact HQ.out rfl
         subst hr0;go_wp2_with fail;go_still_tail 10,(by kernel_rfl);change wpList _ _ _ _ _ wr.drew;go_wp2_with fail;refine(IH'.out j hlt l'[j] A1 A2 c1 c2 _ HS.out.1.drew HS.out.2.drew).mono ?_;rintro e w1 ⟨rfl,hb1⟩;rw[decide_eq_false HQ.out];have HB:=AJ hb1;clear hb1;go_wp2_with fail;go_ret;exact⟨rfl,ak hbel.drew HB.out⟩
       ·have e:j=l.length:=by omega
        have hr0:r=true:=by have h:=hT.out;rw[e,List.take_length,H5.out,List.take_length] at h;rw[HR.out,h];simp
        subst hr0;obtain⟨p0,p1,p2,p3,p4⟩:=hP0.c5;have hz0:=hP0.lt;have HB:=AJ hbel;clear hbel hP0 hP1 hT;go_wp2_with fail;go_ret;exact⟨rfl,HB.out⟩
     ·have h5':((l.length:Int) != l'.length)=true:=by simp;omega
      have hr0:r=false:=by rw[HR.out];simp only[decide_eq_false_iff_not];intro e;injection e with _ _ _ _ e;exact h5 (by rw[e])
      subst hr0;clear h5;go_enter Tryz.func72,Tryz.ntmps72;go_wp2_with fail;go_ret;exact⟨rfl,B0.out⟩
    ·have h4':=lY h4;have hr0:r=false:=by rw[HR.out];simp only[decide_eq_false_iff_not];intro e;injection e with _ _ _ e _;exact h4 e
     subst hr0;clear h4;go_enter Tryz.func72,Tryz.ntmps72;go_wp2_with fail;go_ret;exact⟨rfl,B0.out⟩
   ·have h3':(x != x')=true:=by simpa using h3
    have hr0:r=false:=by rw[HR.out];simp only[decide_eq_false_iff_not];intro e;injection e with _ _ e _ _;exact h3 e
    subst hr0;clear h3;go_enter Tryz.func72,Tryz.ntmps72;go_wp2_with fail;go_ret;exact⟨rfl,B0.out⟩
  ·have h2':(n != n')=true:=by simpa using h2
   have hr0:r=false:=by rw[HR.out];simp only[decide_eq_false_iff_not];intro e;injection e with _ e _ _ _;exact h2 e
   subst hr0;clear h2;go_enter Tryz.func72,Tryz.ntmps72;go_wp2_with fail;go_ret;exact⟨rfl,B0.out⟩
 ·have h1':(k != k')=true:=by simpa using h1
  have hr0:r=false:=by rw[HR.out];simp only[decide_eq_false_iff_not];intro e;injection e with e _ _ _ _;exact h1 e
  subst hr0;clear h1;go_enter Tryz.func72,Tryz.ntmps72;go_wp2_with fail;go_ret;exact⟨rfl,B0.out⟩
def uS(v:aa):Prop:= ∀(u:aa)(A A':Option Addr)(c c':Nat)(w:World),SA w v.l A c→SA w u.l A' c'→Calls Tryz.prog 71 #[.agg #[.int .i64 v.kind,.int .i64 v.n,.int .i64 v.x,.string v.s,.slice A v.l.length c],.agg #[.int .i64 u.kind,.int .i64 u.n,.int .i64 u.x,.string u.s,.slice A' u.l.length c']] w (bW w (.bool (decide (v=u))))
theorem o6(l l':List aa)(IH: ∀i(hi:i<l.length),uS l[i])(A A':Option Addr)(c c':Nat)(w:World)(hx:SA w l A c)(hy:SA w l' A' c')(hcf: ∀(a:Array Value)(w:World),(callFunc 71 a).run Tryz.prog w=.ok (.enter 71 a) w):Calls Tryz.prog 128 #[.slice A l.length c,.slice A' l'.length c',.func (.func 71) #[] #[]] w (bW w (.bool (decide (l=l')))):=by
 have hl:l.length≤9223372036854775807:=by have:=hx.len;unfold maxLen at this;omega
 have hl':l'.length≤9223372036854775807:=by have:=hy.len;unfold maxLen at this;omega
 obtain⟨r,hr⟩: ∃r,r=decide (l=l'):=⟨_,rfl⟩;rw[←hr];have HR:=AJ hr;clear hr;have IH':=AJ IH;clear IH;have E:=AJ (AH hx hy);clear hx hy;by_cases h5:l.length=l'.length
 ·have h5':((l.length:Int) != l'.length)=false:=by simp[h5]
  have H5:=AJ h5;clear h5;go_enter Tryz.func128,Tryz.ntmps128;go_wp2_with fail;go_loopg[17] l.length (fun gk i wr=> ∃(j:Nat),j≤l.length∧i=.int .i64 j∧gk=l.length-j∧Hid (l.take j=l'.take j)∧Below w.heap.size w wr);case atStart=>exact⟨0,by omega,rfl,by omega,rfl,ae w⟩
  case round=>
   obtain⟨j,hj,rfl,rfl,hT,hbel⟩:=hrel;by_cases hlt:j<l.length
   ·have hlt':j<l'.length:=H5.out▸hlt;obtain⟨b,off,A1,c1,rfl,hb,hI,hs,k0,k1,k2,k3,k4⟩:=(E.out.1.below hbel).bI hlt;obtain⟨b',off',A2,c2,rfl,hb',hI',hs',q0,q1,q2,q3,q4⟩:=(E.out.2.below hbel).bI hlt';have hi1:(j:Int)<l.length:=by omega
    have hi2:(j:Int)<l'.length:=by omega
    have hi3:(0:Int)≤j:=by omega
    have HS:=AJ (AH hs hs');clear hs hs' hI hI';have HB0:=AJ hbel;clear hbel;rcases Decidable.em (l[j]=l'[j]) with hq|hq
    ·have HQ:=AJ hq;clear hq;go_wp2_with fail;refine(IH'.out j hlt l'[j] A1 A2 c1 c2 _ (HS.out.1.below (ab (ab (ae wr) _) _)) (HS.out.2.below (ab (ab (ae wr) _) _))).mono ?_;rintro e w1 ⟨rfl,hb1⟩;rw[decide_eq_true HQ.out];have HB:=AJ (ak (ab (ab HB0.out _) _) hb1);clear hb1;go_wp2_with fail;go_roundg(l.length-(j+1));case measure=>omega
     case rel=>exact⟨j+1,by omega,by go_num,rfl,gu hlt hlt' hT.out HQ.out,HB.out⟩
    ·have HQ:=AJ hq;clear hq;have hr0:r=false:=by rw[HR.out];simp only[decide_eq_false_iff_not];intro e;subst e;exact HQ.out rfl
     subst hr0;go_wp2_with fail;refine(IH'.out j hlt l'[j] A1 A2 c1 c2 _ (HS.out.1.below (ab (ab (ae wr) _) _)) (HS.out.2.below (ab (ab (ae wr) _) _))).mono ?_;rintro e w1 ⟨rfl,hb1⟩;rw[decide_eq_false HQ.out];have HB:=AJ (ak (ab (ab HB0.out _) _) hb1);clear hb1;go_wp2_with fail;go_ret;exact⟨rfl,HB.out⟩
   ·have e:j=l.length:=by omega
    have hr0:r=true:=by have h:=hT.out;rw[e,List.take_length,H5.out,List.take_length] at h;rw[HR.out,h];simp
    subst hr0;have HB:=AJ hbel;clear hbel hT;go_wp2_with fail;go_ret;exact⟨rfl,HB.out⟩
 ·have h5':((l.length:Int) != l'.length)=true:=by simp;omega
  have hr0:r=false:=by rw[HR.out];simp only[decide_eq_false_iff_not];intro e;exact h5 (by rw[e])
  subst hr0;clear h5;go_enter Tryz.func128,Tryz.ntmps128;go_wp2_with fail;go_ret;exact⟨rfl,ae w⟩
theorem vn(v:aa):uS v:=by
 refine aa.ind (p:=uS) (fun v IH=> ?_) v;intro u A A' c c' w hx hy;obtain⟨r,hr⟩: ∃r,r=decide (v=u):=⟨_,rfl⟩;rw[←hr];have HR:=AJ hr;clear hr;obtain⟨k,n,x,s,l⟩:=v;obtain⟨k',n',x',s',l'⟩:=u;simp only at hx hy IH;have B0:=AJ (ab (ab (ae w) (.cells #[.int .i64 k,.int .i64 n,.int .i64 x,.string s,.slice A l.length c] 27)) (.cells #[.int .i64 k',.int .i64 n',.int .i64 x',.string s',.slice A' l'.length c'] 27));have HC:=AJ (o6 l l' IH A A' c c' _ (hx.below B0.out) (hy.below B0.out) (fun a w=>by kernel_rfl));clear hx hy IH;by_cases h1:k=k'
 ·subst h1;by_cases h2:n=n'
  ·subst h2;by_cases h3:x=x'
   ·subst h3;by_cases h4:s=s'
    ·subst h4;have hs1:=nJ s;have hr0:r=decide (l=l'):=by rw[HR.out];simp
     have HR0:=AJ hr0;clear hr0;go_enter Tryz.func71,Tryz.ntmps71;go_wp2_with fail;refine HC.out.mono ?_;rintro e w1 ⟨rfl,hb1⟩;rw[←HR0.out];have HB:=AJ (ak B0.out hb1);clear hb1;go_wp2_with fail;go_ret;exact⟨rfl,HB.out⟩
    ·have h4':=lY h4;have hr0:r=false:=by rw[HR.out];simp only[decide_eq_false_iff_not];intro e;injection e with _ _ _ e _;exact h4 e
     subst hr0;clear h4;go_enter Tryz.func71,Tryz.ntmps71;go_wp2_with fail;go_ret;exact⟨rfl,B0.out⟩
   ·have h3':(x==x')=false:=by simpa using h3
    have hr0:r=false:=by rw[HR.out];simp only[decide_eq_false_iff_not];intro e;injection e with _ _ e _ _;exact h3 e
    subst hr0;clear h3;go_enter Tryz.func71,Tryz.ntmps71;go_wp2_with fail;go_ret;exact⟨rfl,B0.out⟩
  ·have h2':(n==n')=false:=by simpa using h2
   have hr0:r=false:=by rw[HR.out];simp only[decide_eq_false_iff_not];intro e;injection e with _ e _ _ _;exact h2 e
   subst hr0;clear h2;go_enter Tryz.func71,Tryz.ntmps71;go_wp2_with fail;go_ret;exact⟨rfl,B0.out⟩
 ·have h1':(k==k')=false:=by simpa using h1
  have hr0:r=false:=by rw[HR.out];simp only[decide_eq_false_iff_not];intro e;injection e with e _ _ _ _;exact h1 e
  subst hr0;clear h1;go_enter Tryz.func71,Tryz.ntmps71;go_wp2_with fail;go_ret;exact⟨rfl,B0.out⟩
section
theorem pj(s:ByteArray):Lib.strCells s=s.data.toList.map fun b=>Value.int .u8 (b.toNat:Int):=by
 first|rfl|(unfold Lib.strCells;simp)|(unfold Lib.strCells;rw[ByteArray.toList_eq])
theorem gd{P:Program}{W:World}(t u ty:TypeId)(base:Nat)(e:TypeId)(ht:P.underlying t=some (.slice e))(hu:P.underlying u=some .string)(hinfo:(P.info? e).map (fun i=>(i.zero,i.size,i.bytes))=some (some (.int .u8 0),1,1))(v:Value)(l:List UInt8)(s:ByteArray)(hown:ay W base e v l)(h63:l.length+s.size≤1099511627776)(hbW:base≤W.heap.size): ∃v' w',(Builtin.append_ #[t,u] ty #[v,.string s]).run P W=.ok v' w'∧ay w' base e v' (l++s.data.toList)∧Below base W w':=by
 obtain⟨i,hi,hz,hsize,hby⟩:=info_parts hinfo;obtain⟨F,hC,hFr⟩:=hown;have hgl:=hC.an;obtain⟨xs,h1,h2,h3⟩:=hC;have hF:F=[]:=by(have key: ∀(l:List UInt8)(F:List Nat)(xs:List Value),aL W l F xs→F=[]:=by intro l;induction l with|nil=>intro F xs h;exact h.1|cons a l ih=>rintro F xs ⟨F1,F2,cs,ys,rfl,rfl,hr,he⟩;rw[ih _ _ he,hr.1];rfl);exact key l F xs h2
 subst hF;obtain⟨v',w',hrun,h4,h5,_⟩:=Lib.run_append_own_string (P:=P) (w:=W) base t u ty e i ht hu hi hz hsize hby v l.length xs h1 s (by unfold maxLen;omega) (by omega) hbW;have hl:s.data.toList.length=s.size:=by rw[Array.length_toList];rfl
 refine⟨v',w',hrun,⟨[],⟨xs++Lib.strCells s,?_,?_,by simp⟩,bL.nil _ _⟩,bM h5 hbW fun k hk=>(hgl k hk).1⟩;·rw[List.length_append,hl];exact h4
 ·rw[pj];have h6:aL w' l [] xs:=h2.al (by simp);exact h6.append (aL.bytes w' s.data.toList)
variable {P : Program} {W : World} {ops : Array Oper} {rest : List Oper} {o : Oper} {a : Act} {Q : Exit → Act → World → Prop} {R : Value → World → Prop}
theorem ux{K:Act→World→Prop}(s x:Operand)(t t2:TypeId)(ho:o.op=.call {callee:=.builtin .append,args:=#[s,x],argTypes:=#[t,t2]}){v u:Value}(hs:a.eval s=v)(hx:a.eval x=u)(hrun: ∃v' w',(Builtin.append_ #[t,t2] o.type #[v,u]).run P W=.ok v' w'∧R v' w')(h: ∀v' w',R v' w'→K (a.put o.dst v') w'):o.wp P a W K Q:=by
 obtain⟨v',w',hr,h1⟩:=hrun;unfold Oper.wp execOp;simp only[ho,resolve,invoke,builtin,Sem.run_bind,Sem.run_pure,Result.andThen_ok,List.map_toArray,List.map_cons,List.map_nil,hs,hx,hr];exact h v' w' h1
theorem pC(hgd:o.guard=none)(s x:Operand)(t t2:TypeId)(ho:o.op=.call {callee:=.builtin .append,args:=#[s,x],argTypes:=#[t,t2]}){v u:Value}(hs:a.eval s=v)(hx:a.eval x=u)(hrun: ∃v' w',(Builtin.append_ #[t,t2] o.type #[v,u]).run P W=.ok v' w'∧R v' w')(h: ∀v' w',R v' w'→wpList P ops Q rest (a.put o.dst v') w'):wpList P ops Q (o::rest) a W:=wpList_plain hgd fun _ hK=>ux s x t t2 ho hs hx hrun fun v' w' hR=>hK _ _ (h v' w' hR)
theorem vV{K:Act→World→Prop}{E:Prop}(hgd:o.guard=none)(s x:Operand)(t t2:TypeId)(ho:o.op=.call {callee:=.builtin .append,args:=#[s,x],argTypes:=#[t,t2]}){v u:Value}(hs:a.eval s=v)(hx:a.eval x=u)(hrun: ∃v' w',(Builtin.append_ #[t,t2] o.type #[v,u]).run P W=.ok v' w'∧R v' w')(h: ∀v' w',R v' w'→K (a.put o.dst v') w'):if Region.wanted o (yielded ops a.tmps)=true then Oper.wp P o a W K Q else E:=by
 have hw:Region.wanted o (yielded ops a.tmps)=true:=by simp[Region.wanted,hgd]
 rw[if_pos hw];exact ux s x t t2 ho hs hx hrun h
end
end Go.Proofs.YtodpdjehjllhdaaGreatDoor
