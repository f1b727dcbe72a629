/- Part of a proof: contracts and plain laws. -/
import Derived.Test.YtodpdjehjllhdaaGreatDoorK37
set_option linter.unusedVariables false
set_option linter.unusedSimpArgs false
set_option maxRecDepth 100000
set_option maxHeartbeats 20000000
namespace Go.Proofs.YtodpdjehjllhdaaGreatDoor
open Go.RowKit
def yG(g:Nat)(code:List UInt8)(w:World)(e:Ending)(w':World):Prop:= ∃n x,e=.returned (.agg #[.int .i64 n,.int .i64 x])∧aZ n x=true∧Ce g w w'∧ez w' g code
theorem j3(g:Nat)(code:List UInt8)(w:World)(hc:ez w g code):Calls Tryz.prog 180 #[.pointer (some ⟨g,0,none⟩)] w (yG g code w):=by
 have hg:=hc.lt;have B0:=Ad (ab (ae w) (.cells #[.int .i64 0,.int .i64 0] 108));have P0:=Ad (aj.new w 108 #[.int .i64 0,.int .i64 0]);have HC:=Ad (hc.below B0.out);clear hc;go_enter Tryz.func180,Tryz.ntmps180;go_wp2_with fail;go_loopg[3] 6 (fun gk i wr=> ∃k:Nat,i=.int .i64 k∧gk=6-k∧k≤6∧Ce g w wr∧ez wr g code∧aj wr w.heap.size 108 #[.int .i64 0,.int .i64 0]);case atStart=>exact⟨0,rfl,rfl,by omega,Ce.of B0.out (by omega),HC.out,P0.out⟩
 case round=>
  obtain⟨k,rfl,rfl,hk,hce,hcur,hP⟩:=hrel;have hzr:=hP.lt;have HX:=Ad (Ac hce (Ac hcur hP));clear hce hcur hP;by_cases hlt:k<6
  ·have hi1:(k:Int)<6:=by omega
   go_wp2_with fail;refine(eG g code wr HX.out.2.1).mono ?_;rintro e w2 ⟨x,rfl,hx0,hx1,hce,hcur⟩;have HY:=Ad (Ac (HX.out.1.trans hce) (Ac hcur (hce.dI HX.out.2.2 (by omega))));clear hce hcur;go_wp2_with fail;refine(ax g code 17 w2 (by omega) (by omega) HY.out.2.1).mono ?_;rintro e w3 ⟨y,rfl,hy0,hy1,hce,hcur⟩;have HZ:=Ad (Ac (HY.out.1.trans hce) (Ac hcur (hce.dI HY.out.2.2 (by omega))));clear hce hcur;have hw:IntKind.i64.wrap (-y)= -y:=by rw[IntKind.wrap_i64];omega
   go_wp2_with fail;refine(nm x (-y) w3 ⟨by omega,by omega⟩).mono ?_;rintro e w4 ⟨rn,rx,rb,rfl,hrd,hrn,hrx,hb4⟩;unfold ew;have hg3:=HZ.out.2.1.lt;have HI:=Ad (Ac hrn hrx);have HRD:=Ad hrd;clear hrd;have HW:=Ad (Ac (HZ.out.1.trans (Ce.of hb4 (by omega))) (Ac (HZ.out.2.1.below hb4) (HZ.out.2.2.below hb4)));clear hb4 hrn hrx;have R:=HW.out.2.2;have f0:=R.frozen 0;have f1:=R.frozen 1;obtain⟨p0,p1⟩:=R.c2;have hz4:w.heap.size<w4.heap.size:=R.lt;have hg4:=HW.out.2.1.lt;clear R;cases rb
   ·go_wp2_with fail;go_roundg(6-(k+1));case measure=>omega
    case rel=>exact⟨k+1,by go_num,rfl,by omega,HW.out.1.add _ (by omega),HW.out.2.1.below (ab (ae w4) _),HW.out.2.2.alloc _⟩
   ·go_wp2_with fail;refine bodyPost_ret (v:=.agg #[.int .i64 rn,.int .i64 rx]) (by simp[results,Tryz.results180,go_sem, *]<;>rfl) rfl ?_;have h5:=Ce.db hg (Ac HW.out.1 HW.out.2.1) (Nat.le_refl w.heap.size) (.int .i64 rn) (.int .i64 rx);exact⟨rn,rx,rfl,HRD.out (by first|rfl|trivial),h5.1.add _ (by simp;omega),h5.2.below (ab (ae _) _)⟩
  ·have hi1: ¬((k:Int)<6):=by omega
   have f0:=HX.out.2.2.frozen 0;have f1:=HX.out.2.2.frozen 1;obtain⟨p0,p1⟩:=HX.out.2.2.c2;go_wp2_with fail;refine bodyPost_ret (v:=.agg #[.int .i64 15,.int .i64 (-1)]) (by simp[results,Tryz.results180,go_sem, *]<;>rfl) rfl ?_;have h5:=Ce.db hg (Ac HX.out.1 HX.out.2.1) (Nat.le_refl w.heap.size) (.int .i64 15) (.int .i64 (-1));exact⟨15,-1,rfl,by have h17:=(jD 15).2 (by omega);unfold aZ;rw[if_neg (by omega)];simp[h17],h5.1,h5.2⟩
theorem qk(g:Nat)(code:List UInt8)(w:World)(hc:ez w g code):Calls Tryz.prog 121 #[.pointer (some ⟨g,0,none⟩)] w (yG g code w):=by
 have hg:=hc.lt;have B0:=Ad (ab (ae w) (.cells #[.int .i64 0,.int .i64 0] 108));have P0:=Ad (aj.new w 108 #[.int .i64 0,.int .i64 0]);have HC:=Ad (hc.below B0.out);clear hc;go_enter Tryz.func121,Tryz.ntmps121;go_wp2_with fail;refine(cC g code 2 _ (by omega) (by omega) HC.out).mono ?_;rintro e w1 ⟨b,rfl,hce,hcur⟩;have P1:=Ad (hce.dI P0.out (by omega));have HX:=Ad (Ac ((Ce.of B0.out (by omega)).trans hce) hcur);clear hce hcur;cases b;·go_wp2_with fail;refine(j3 g code _ HX.out.2).mono ?_;rintro e wz ⟨n,x,rfl,hn,hce,hcur⟩;have HDN:=Ad hn;clear hn;have RZ:=hce.dI P1.out (by omega);have f0:=RZ.frozen 0;have f1:=RZ.frozen 1;obtain⟨p0,p1⟩:=RZ.c2;have hzz:w.heap.size<wz.heap.size:=RZ.lt;have HZ:=Ad (Ac (HX.out.1.trans hce) hcur);clear hce hcur RZ;go_wp2_with fail;refine bodyPost_ret (v:=.agg #[.int .i64 n,.int .i64 x]) (by simp[results,Tryz.results121,go_sem, *]<;>rfl) rfl ?_;have h5:=Ce.db hg HZ.out (Nat.le_refl w.heap.size) (.int .i64 n) (.int .i64 x);exact⟨n,x,rfl,HDN.out,h5.1,h5.2⟩
 ·go_wp2_with fail;refine(jZ g code w1 HX.out.2).mono ?_;rintro e w2 ⟨m,x,rfl,hm,hce,hcur⟩;have HM:=Ad hm;clear hm;have P2:=Ad (hce.dI P1.out (by omega));have HY:=Ad (Ac (HX.out.1.trans hce) hcur);clear hce hcur;go_wp2_with fail;refine(fT m x w2 HM.out).mono ?_;rintro e w3 ⟨rfl,hb3⟩;have hny:=sT HM.out;unfold nN;obtain⟨n,hn1⟩: ∃n,n=(aI m x).1:=⟨_,rfl⟩;obtain⟨y,hy1⟩: ∃y,y=(aI m x).2:=⟨_,rfl⟩;rw[←hn1,←hy1] at hny ⊢;obtain⟨hn,hy⟩:=hny;clear hn1 hy1;have hg2:=HY.out.2.lt;have P3:=Ad (P2.out.below hb3);have HZ:=Ad (Ac (HY.out.1.trans (Ce.of hb3 (by omega))) (HY.out.2.below hb3));clear hb3;have hg3:=HZ.out.2.lt;have hz3:=P3.out.lt;have Q3:=Ad (aj.new w3 108 #[.int .i64 n,.int .i64 y]);have P3a:=Ad (P3.out.alloc (.cells #[.int .i64 n,.int .i64 y] 108));have HZa:=Ad (Ac (HZ.out.1.add (.cells #[.int .i64 n,.int .i64 y] 108) (by omega)) (HZ.out.2.below (ab (ae w3) (.cells #[.int .i64 n,.int .i64 y] 108))));go_wp2_with fail;refine(cC g code 3 _ (by omega) (by omega) HZa.out.2).mono ?_;rintro e w4 ⟨b2,rfl,hce,hcur⟩;have P4:=Ad (hce.dI P3a.out (by omega));have Q4:=Ad (hce.dI Q3.out (by omega));have HV:=Ad (Ac (HZa.out.1.trans hce) hcur);clear hce hcur;have hz4:w3.heap.size<w4.heap.size:=Q4.out.lt;obtain⟨q0,q1⟩:=Q4.out.c2;have g0:=Q4.out.frozen 0;have g1:=Q4.out.frozen 1;have hg4:=HV.out.2.lt;cases b2
  ·go_wp2_with fail;refine(bA n y _ hn).mono ?_;rintro e w5 ⟨rfl,hb5⟩;obtain⟨b3,hb3⟩: ∃b,b=aZ n y:=⟨_,rfl⟩;rw[←hb3];have HB3:=Ad hb3;clear hb3;have P5:=Ad (P4.out.below hb5);have Q5:=Ad (Q4.out.below hb5);have HU:=Ad (Ac (HV.out.1.trans (Ce.of hb5 (by first|omega|(simp;omega)))) (HV.out.2.below hb5));clear hb5 q0 q1 g0 g1;have hz5:w3.heap.size<w5.heap.size:=Q5.out.lt;have hg5:=HU.out.2.lt;obtain⟨q0,q1⟩:=Q5.out.c2;cases b3;·go_wp2_with fail;refine(j3 g code _ HU.out.2).mono ?_;rintro e wz ⟨n,x,rfl,hn,hce,hcur⟩;have HDN:=Ad hn;clear hn;have RZ:=hce.dI P5.out (by omega);have f0:=RZ.frozen 0;have f1:=RZ.frozen 1;obtain⟨p0,p1⟩:=RZ.c2;have hzz:w.heap.size<wz.heap.size:=RZ.lt;have HZ:=Ad (Ac (HU.out.1.trans hce) hcur);clear hce hcur RZ;go_wp2_with fail;refine bodyPost_ret (v:=.agg #[.int .i64 n,.int .i64 x]) (by simp[results,Tryz.results121,go_sem, *]<;>rfl) rfl ?_;have h5:=Ce.db hg HZ.out (Nat.le_refl w.heap.size) (.int .i64 n) (.int .i64 x);exact⟨n,x,rfl,HDN.out,h5.1,h5.2⟩
   ·have f0:=P5.out.frozen 0;have f1:=P5.out.frozen 1;obtain⟨p0,p1⟩:=P5.out.c2;have hzz:w.heap.size<w5.heap.size:=P5.out.lt;go_wp2_with fail;refine bodyPost_ret (v:=.agg #[.int .i64 n,.int .i64 y]) (by simp[results,Tryz.results121,go_sem, *]<;>rfl) rfl ?_;have h5:=Ce.db hg HU.out (Nat.le_refl w.heap.size) (.int .i64 n) (.int .i64 y);exact⟨_,y,rfl,HB3.out.symm,h5.1,h5.2⟩
  ·have QS:=Ad (Q4.out.cT 0 (.int .i64 (wrap64 (n+1))));have PS:=Ad (P4.out.qe (p:=⟨w3.heap.size,0,none⟩) (by simp;omega) (.int .i64 (wrap64 (n+1))));have HS:=Ad (Ce.mi hg HV.out (by omega:w.heap.size≤w3.heap.size) 0 (.int .i64 (wrap64 (n+1))));go_wp2_with fail;refine(bA (wrap64 (n+1)) y _ (zJ _)).mono ?_;rintro e w5 ⟨rfl,hb5⟩;obtain⟨b3,hb3⟩: ∃b,b=aZ (wrap64 (n+1)) y:=⟨_,rfl⟩;rw[←hb3];have HB3:=Ad hb3;clear hb3;have P5:=Ad (PS.out.below hb5);have Q5:=Ad (QS.out.below hb5);have HU:=Ad (Ac (HS.out.1.trans (Ce.of hb5 (by first|omega|(simp;omega)))) (HS.out.2.below hb5));clear hb5 q0 q1 g0 g1;have hz5:w3.heap.size<w5.heap.size:=Q5.out.lt;have hg5:=HU.out.2.lt;obtain⟨q0,q1⟩:=Q5.out.c2;cases b3;·go_wp2_with fail;refine(j3 g code _ HU.out.2).mono ?_;rintro e wz ⟨n,x,rfl,hn,hce,hcur⟩;have HDN:=Ad hn;clear hn;have RZ:=hce.dI P5.out (by omega);have f0:=RZ.frozen 0;have f1:=RZ.frozen 1;obtain⟨p0,p1⟩:=RZ.c2;have hzz:w.heap.size<wz.heap.size:=RZ.lt;have HZ:=Ad (Ac (HU.out.1.trans hce) hcur);clear hce hcur RZ;go_wp2_with fail;refine bodyPost_ret (v:=.agg #[.int .i64 n,.int .i64 x]) (by simp[results,Tryz.results121,go_sem, *]<;>rfl) rfl ?_;have h5:=Ce.db hg HZ.out (Nat.le_refl w.heap.size) (.int .i64 n) (.int .i64 x);exact⟨n,x,rfl,HDN.out,h5.1,h5.2⟩
   ·have f0:=P5.out.frozen 0;have f1:=P5.out.frozen 1;obtain⟨p0,p1⟩:=P5.out.c2;have hzz:w.heap.size<w5.heap.size:=P5.out.lt;go_wp2_with fail;refine bodyPost_ret (v:=.agg #[.int .i64 (wrap64 (n+1)),.int .i64 y]) (by simp[results,Tryz.results121,go_sem, *]<;>rfl) rfl ?_;have h5:=Ce.db hg HU.out (Nat.le_refl w.heap.size) (.int .i64 (wrap64 (n+1))) (.int .i64 y);exact⟨_,y,rfl,HB3.out.symm,h5.1,h5.2⟩
def tg(d P:Nat)(v:aa):Prop:=potG v≤P∧depG v≤d∧gi v∧valOkP v=true
theorem tg.mono{d d' P P':Nat}{v:aa}(h:tg d P v)(hd:d≤d')(hP:P≤P'):tg d' P' v:=⟨Nat.le_trans h.1 hP,Nat.le_trans h.2.1 hd,h.2.2⟩
theorem tg.zu{d P:Nat}{v:aa}(h:tg d P v)(hd:d≤4)(hP:P≤10000):ft v:=by
 obtain⟨h1,h2,h3,h4⟩:=h;have hb:=bz v h4;exact⟨ef h4 (by rw[au] at hb;unfold maxLen;omega),h3,by omega,by omega,by omega⟩
theorem gL.nil:gL []:=fun u hu=>by simp[preL] at hu
theorem gL.snoc{l:List aa}{a:aa}(h:gL l)(ha:gi a):gL (l++[a]):=by
 intro u hu;rw[pz] at hu;rcases List.mem_append.1 hu with hu|hu;·exact h u hu
 ·exact ha u hu
theorem tg.leaf{k n x:Int}{s:ByteArray}(hk:k≤8)(hs:s.size≤100)(h:valOkP ⟨k,n,x,s,[]⟩=true):tg 0 200 ⟨k,n,x,s,[]⟩:=by
 refine⟨?_,?_,gi.of (fun h=>by simp only at h;omega) gL.nil,h⟩
 ·rw[aW];simp only[potL];split;·omega
  ·split<;>omega
 ·rw[eE];simp[depL]
theorem lU(l:List aa)(a:aa):potL (l++[a])=potL l+(1+potG a):=by
 rw[uO,uO];simp;omega
theorem xp{u:aa}(h:bM u):potG u≤24∧depG u=0:=by
 obtain⟨h1,h2,h3⟩:=h;refine⟨?_,by rw[eE,h2];rfl⟩;rw[aW,h2];simp only[potL];rcases h3 with⟨h3,_,_,_⟩|⟨h3,_,h4,_⟩;·rw[if_neg (by omega),if_pos (by omega)];omega
 ·rw[if_neg (by omega),if_neg (by omega)];omega
structure DL (m : Bool) (q d P : Nat) (l : List aa) : Prop where
  len : l.length ≤ 2 * q
  two : m = true → l.length = 2 * q ∧ ∀ i (h : i < l.length), i % 2 = 0 → bM l[i]
  pot : potL l ≤ q * (26 + P)
  dep : depL l ≤ d + 1
  yY : gL l
  ok : valsOkP l = true
theorem DL.nil(m:Bool)(d P:Nat):DL m 0 d P []:=⟨by simp,fun _=>⟨by simp,fun i h=>by simp at h⟩,by simp[potL],by simp[depL],gL.nil,rfl⟩
theorem jt{l:List aa}{a:aa}{d:Nat}(h:depL l≤d+1)(ha:depG a≤d):depL (l++[a])≤d+1:=by
 rw[lj] at h ⊢;intro b hb;rcases List.mem_append.1 hb with hb|hb;·exact h b hb
 ·rw[List.mem_singleton.1 hb];omega
theorem DL.add{q d P:Nat}{l:List aa}{x:aa}(h:DL false q d P l)(hx:tg d P x):DL false (q+1) d P (l++[x]):=by
 obtain⟨h1,h2,h3,h4⟩:=hx;have hm:(q+1)*(26+P)=q*(26+P)+(26+P):=Nat.succ_mul _ _;have hp:=h.pot;refine⟨by have:=h.len;simp;omega,(fun e=>by cases e),by rw[lU];omega,jt h.dep h2,h.yY.snoc h3,by rw[fI,h.ok,h4];rfl⟩
theorem DL.pair{q d P:Nat}{l:List aa}{u x:aa}(h:DL true q d P l)(hu:bM u)(hx:tg d P x):DL true (q+1) d P ((l++[u])++[x]):=by
 obtain⟨h1,h2,h3,h4⟩:=hx;obtain⟨hl,hn⟩:=h.two rfl;obtain⟨hp1,hd1⟩:=xp hu;have hm:(q+1)*(26+P)=q*(26+P)+(26+P):=Nat.succ_mul _ _;have hp:=h.pot;refine⟨by simp;omega,fun _=>⟨by simp;omega,fun i hi he=> ?_⟩,by rw[lU,lU];omega,jt (jt h.dep (by omega)) h2,(h.yY.snoc hu.yY).snoc h3,by rw[fI,fI,h.ok,h4,hu.sI];rfl⟩;simp only[List.length_append,List.length_singleton] at hi;by_cases h5:i<l.length;·rw[List.getElem_append_left (by simp;omega),List.getElem_append_left h5];exact hn i h5 he
 ·have e:i=l.length:=by omega
  subst e;rw[List.getElem_append_left (by simp),List.getElem_append_right (Nat.le_refl _)];simpa using hu
theorem DL.list{q d P:Nat}{l:List aa}(h:DL false q d P l)(hq:q≤3):tg (d+1) (78+3*P) ⟨9,0,0,.empty,l⟩:=by
 have hm:q*(26+P)≤3*(26+P):=Nat.mul_le_mul_right _ hq;have hp:=h.pot;refine⟨?_,by rw[eE];exact h.dep,gi.of (fun e=>by simp at e) h.yY,by rw[bU,h.ok];rfl⟩;rw[aW];simp;omega
theorem DL.map{q d P:Nat}{l:List aa}(h:DL true q d P l)(hq:q≤3):tg (d+1) (78+3*P) ⟨10,0,0,.empty,l⟩:=by
 have hm:q*(26+P)≤3*(26+P):=Nat.mul_le_mul_right _ hq;have hp:=h.pot;obtain⟨hl,hn⟩:=h.two rfl;refine⟨?_,by rw[eE];exact h.dep,gi.of (fun e=>⟨by show l.length≤6;omega,hn⟩) h.yY,?_⟩;·rw[aW];simp;omega
 ·rw[bU,h.ok];have e:af ⟨10,0,0,.empty,l⟩=true:=by unfold af;simp;omega
  rw[e];rfl
theorem tg.tag{d P:Nat}{x:aa}{n:Int}(h:tg d P x)(h0:0≤n)(h1:n≤300):tg (d+1) (78+3*P) ⟨11,n,0,.empty,[x]⟩:=by
 obtain⟨k1,k2,k3,k4⟩:=h;refine⟨?_,?_,gi.of (fun e=>by simp at e) (gL.snoc (l:=[]) gL.nil k3),?_⟩;·rw[aW];simp[potL];omega
 ·rw[eE];exact jt (l:=[]) (by simp[depL]) k2
 ·rw[bU];have e:af ⟨11,n,0,.empty,[x]⟩=true:=by unfold af;simp;omega
  rw[e];simp[valsOkP,k4]
theorem lJ:(Tryz.prog.info? 5).map (fun i=>(i.zero,i.size,i.bytes))=some (some (.int .u8 0),1,1):=by
 kernel_rfl
theorem ju: ∀(w:World)(F:List Nat)(a:UInt8)(cs:List Value),aE.rp w F a cs→F=[]:=fun _ _ _ _ h=>h.1
theorem pT{x:Int}(h0:0≤x)(h1:x≤255):((byteOf x).toNat:Int)=x:=by
 rw[fZ];omega
theorem uG(w:World): ∀(es:List Int),(∀e∈es,0≤e∧e≤255)→aN w (es.map byteOf) [] (es.map (Value.int .u8))|[],_=>⟨rfl,rfl⟩|e::es,h=>⟨[],[],[.int .u8 e],es.map (Value.int .u8),rfl,rfl,⟨rfl,by rw[pT (h e (List.mem_cons_self ..)).1 (h e (List.mem_cons_self ..)).2]⟩,uG w es fun x hx=>h x (List.mem_cons_of_mem _ hx)⟩
theorem tc(W:World)(t:TypeId)(es:List Int)(n:Nat)(hn:n=es.length)(h: ∀e∈es,0≤e∧e≤255)(hm:es.length≤1000):SA (W.alloc (.cells (es.map (Value.int .u8)).toArray t)) (es.map byteOf) (some ⟨W.heap.size,0,none⟩) n:=by
 subst hn;refine⟨[W.heap.size],⟨by simp,by unfold maxLen;omega,.inr ⟨_,_,[],_,rfl,rfl,uG _ es h,fun j v hj=> ?_⟩⟩,fun b hb=>by simp at hb;subst hb;simp⟩;have:=(aj.new W t (es.map (Value.int .u8)).toArray).cell j;rw[Nat.zero_add,this];simpa using hj
def fB(n:Int):Bool:=decide (0≤n∧n≤1114111)&& !decide (55296≤n∧n≤57343)
def dP(n:Int):Int:=if fB n then(if n<128 then 1 else if n<2048 then 2 else if n<65536 then 3 else 4) else 0
def ru(n:Int):List Int:=if dP n=1 then[n] else if dP n=2 then[192+n/64,128+n%64] else if dP n=3 then[224+n/4096,128+n/64%64,128+n%64] else if dP n=4 then[240+n/262144,128+n/4096%64,128+n/64%64,128+n%64] else[]
def jJ(n:Int):List UInt8:=(ru n).map byteOf
theorem wm(n:Int):(jJ n).length≤4:=by
 unfold jJ ru;rw[List.length_map];repeat' split
 all_goals simp
theorem ot{n:Int}:fB n=true↔(0≤n∧n≤1114111)∧ ¬(55296≤n∧n≤57343):=by
 unfold fB;simp;omega
theorem dC(n:Int)(w:World):Calls Tryz.prog 281 #[.int .i64 n] w (bN w (.bool (fB n))):=by
 by_cases h1:0≤n∧n≤1114111
 ·have hd1:decide (0≤n∧n≤1114111)=true:=decide_eq_true h1;obtain⟨b,hb⟩: ∃b,b=decide (55296≤n∧n≤57343):=⟨_,rfl⟩;have hR:fB n= !b:=by unfold fB;rw[hd1,hb];rfl
  rw[hR];have HH:=Ad (Ac hd1 hb);clear hd1 hb hR;go_enter Tryz.func281,Tryz.ntmps281;go_wp2_with fail;refine(aR _ _ _ _).mono ?_;rintro e w1 ⟨rfl,hb1⟩;rw[HH.out.1];have B1:=Ad hb1;clear hb1;go_wp2_with fail;refine(aR _ _ _ _).mono ?_;rintro e w2 ⟨rfl,hb2⟩;rw[←HH.out.2];have B2:=Ad (ai B1.out hb2);clear hb2;go_wp2_with fail;go_ret;exact⟨rfl,B2.out⟩
 ·have hd1:decide (0≤n∧n≤1114111)=false:=decide_eq_false h1;have hR:fB n=false:=by unfold fB;rw[hd1];rfl
  rw[hR];have HH:=Ad hd1;clear hd1 hR;go_enter Tryz.func281,Tryz.ntmps281;go_wp2_with fail;refine(aR _ _ _ _).mono ?_;rintro e w1 ⟨rfl,hb1⟩;rw[HH.out];have B1:=Ad hb1;clear hb1;go_wp2_with fail;go_ret;exact⟨rfl,B1.out⟩
theorem oL(n:Int)(w:World):Calls Tryz.prog 246 #[.int .i64 n] w (bN w (.int .i64 (dP n))):=by
 obtain⟨r,hr⟩: ∃r,r=dP n:=⟨_,rfl⟩;rw[←hr];unfold dP at hr;cases hk:fB n with|false=>rw[hk] at hr;(have hr2:r=0:=by rw[hr];rfl);have HH:=Ad (Ac hk hr2);clear hk hr hr2;go_enter Tryz.func246,Tryz.ntmps246;go_wp2_with fail;refine(dC _ _).mono ?_;rintro e w1 ⟨rfl,hb1⟩;rw[HH.out.1];have B1:=Ad hb1;clear hb1;go_wp2_with fail;go_ret;exact⟨by rw[HH.out.2];rfl,B1.out⟩|true=>rw[hk,if_pos rfl] at hr;by_cases h1:n<128;(·(have hr2:r=1:=by rw[hr,if_pos h1]);have HH:=Ad (Ac hk hr2);clear hk hr hr2;go_enter Tryz.func246,Tryz.ntmps246;go_wp2_with fail;refine(dC _ _).mono ?_;rintro e w1 ⟨rfl,hb1⟩;rw[HH.out.1];have B1:=Ad hb1;clear hb1;go_wp2_with fail;go_ret;exact⟨by rw[HH.out.2];rfl,B1.out⟩);·rw[if_neg h1] at hr;by_cases h2:n<2048;(·(have hr2:r=2:=by rw[hr,if_pos h2]);have HH:=Ad (Ac hk hr2);clear hk hr hr2;go_enter Tryz.func246,Tryz.ntmps246;go_wp2_with fail;refine(dC _ _).mono ?_;rintro e w1 ⟨rfl,hb1⟩;rw[HH.out.1];have B1:=Ad hb1;clear hb1;go_wp2_with fail;go_ret;exact⟨by rw[HH.out.2];rfl,B1.out⟩);·rw[if_neg h2] at hr;by_cases h3:n<65536;(·(have hr2:r=3:=by rw[hr,if_pos h3]);have HH:=Ad (Ac hk hr2);clear hk hr hr2;go_enter Tryz.func246,Tryz.ntmps246;go_wp2_with fail;refine(dC _ _).mono ?_;rintro e w1 ⟨rfl,hb1⟩;rw[HH.out.1];have B1:=Ad hb1;clear hb1;go_wp2_with fail;go_ret;exact⟨by rw[HH.out.2];rfl,B1.out⟩);·(have hr2:r=4:=by rw[hr,if_neg h3]);have HH:=Ad (Ac hk hr2);clear hk hr hr2;go_enter Tryz.func246,Tryz.ntmps246;go_wp2_with fail;refine(dC _ _).mono ?_;rintro e w1 ⟨rfl,hb1⟩;rw[HH.out.1];have B1:=Ad hb1;clear hb1;go_wp2_with fail;go_ret;exact⟨by rw[HH.out.2];rfl,B1.out⟩
theorem ou(n:Int):(dP n=0∧ru n=[])∨(dP n=1∧0≤n∧n≤127∧ru n=[n])∨(dP n=2∧128≤n∧n≤2047∧ru n=[192+n/64,128+n%64])∨(dP n=3∧2048≤n∧n≤65535∧ru n=[224+n/4096,128+n/64%64,128+n%64])∨(dP n=4∧65536≤n∧n≤1114111∧ru n=[240+n/262144,128+n/4096%64,128+n/64%64,128+n%64]):=by
 unfold ru;generalize hW:dP n=W;unfold dP at hW;cases hk:fB n with|false=>rw[hk] at hW;simp at hW;subst hW;left;exact⟨rfl,rfl⟩|true=>have h1:=(ot.1 hk).1;rw[hk,if_pos rfl] at hW;right;split at hW;(·subst hW;left;exact⟨rfl,by omega,by omega,rfl⟩);·right;split at hW;(·subst hW;left;exact⟨rfl,by omega,by omega,rfl⟩);·right;split at hW;(·subst hW;left;exact⟨rfl,by omega,by omega,rfl⟩);·subst hW;right;exact⟨rfl,by omega,by omega,rfl⟩
theorem mV(b:List UInt8)(n:Int)(A:Option Addr)(c:Nat)(w:World)(hn:b.length≤1048576)(hI:a8 n)(hb:SA w b A c):Calls Tryz.prog 237 #[.slice A b.length c,.int .i64 n] w (xM w (b++jJ n)):=by
 have hi1:=hI.1;have hi2:=hI.2;clear hI;obtain⟨r,hr⟩: ∃r,r=b++jJ n:=⟨_,rfl⟩;rw[←hr];unfold jJ at hr;have HR0:=Ad hr;clear hr;have E:=Ad hb;clear hb;go_enter Tryz.func237,Tryz.ntmps237;go_wp2_with(at_builtin;(refine av rfl _ _ 22 rfl (v:=.slice (some ⟨_,0,none⟩) 0 0) (u:=.slice A b.length c) rfl rfl (a7 ju 22 _ w.heap.size 5 (.int .u8 0) 1 Tryz.underlying22 lJ rfl (by decide) _ [] b A c (ay.dV _ _ _ _ (by simp) (by omega)) (E.out.below (ab (ae w) _)) (by simp;omega) (by simp;unfold maxLen;omega) (by simp)) ?_;rintro v1 w1 ⟨ho,hbl,hloc,hg⟩;rw[List.nil_append] at ho;obtain⟨A1,c1,rfl⟩:=ho.form;have HO:=Ad (Ac ho ((ab (ae w) _).trans hbl));clear ho hbl hloc hg));refine(oL n w1).mono ?_;rintro e w2 ⟨rfl,hb2⟩;have HO2:=Ad (Ac (HO.out.1.below hb2) (ai HO.out.2 hb2));clear hb2;have hz2:w.heap.size≤w2.heap.size:=HO2.out.2.size;rcases ou n with⟨hw,he⟩|⟨hw,h1,h2,he⟩|⟨hw,h1,h2,he⟩|⟨hw,h1,h2,he⟩|⟨hw,h1,h2,he⟩;·rw[hw];have hr:=HR0.out;rw[he] at hr;simp only[List.map_nil,List.append_nil] at hr;have HR:=Ad hr;clear hr hw he;go_wp2_with fail;go_ret;exact⟨A1,c1,by rw[HR.out];rfl,by rw[HR.out];exact HO2.out.1.sf.2,HO2.out.2⟩
 ·rw[hw];have hr:=HR0.out;rw[he] at hr;have hes: ∀e∈([n]:List Int),0≤e∧e≤255:=by intro e hm;simp only[List.mem_cons,List.mem_nil_iff,or_false] at hm;omega
  have HR:=Ad (Ac hr hes);clear hr hw he hes;go_wp2_with(at_builtin;(refine av rfl _ _ 22 rfl (v:=.slice A1 b.length c1) (u:=.slice (some ⟨w2.heap.size,0,none⟩) 1 1) (by rfl) (by rfl) (a7 ju 22 _ w.heap.size 5 (.int .u8 0) 1 Tryz.underlying22 lJ rfl (by decide) _ b (([n]:List Int).map byteOf) _ _ (HO2.out.1.alloc _) (tc w2 _ [n] 1 rfl HR.out.2 (by simp)) (by simp;omega) (by simp;unfold maxLen;omega) (by simp;omega)) ?_;rintro v3 w3 ⟨ho,hbl,hloc,hg⟩;rw[←HR.out.1] at ho;obtain⟨A3,c3,rfl⟩:=ho.form;have HO3:=Ad (Ac ho (HO2.out.2.trans (Below.trans ((Below.refl _ _).alloc hz2 _) hbl)));clear ho hbl hloc hg));go_ret;exact⟨A3,c3,rfl,HO3.out.1.sf.2,HO3.out.2⟩
 ·rw[hw];have hr:=HR0.out;rw[he] at hr;have hes: ∀e∈([192+n/64,128+n%64]:List Int),0≤e∧e≤255:=by intro e hm;simp only[List.mem_cons,List.mem_nil_iff,or_false] at hm;omega
  have HR:=Ad (Ac hr hes);clear hr hw he hes;go_wp2_with(at_builtin;(refine av rfl _ _ 22 rfl (v:=.slice A1 b.length c1) (u:=.slice (some ⟨w2.heap.size,0,none⟩) 2 2) (by rfl) (by rfl) (a7 ju 22 _ w.heap.size 5 (.int .u8 0) 1 Tryz.underlying22 lJ rfl (by decide) _ b (([192+n/64,128+n%64]:List Int).map byteOf) _ _ (HO2.out.1.alloc _) (tc w2 _ [192+n/64,128+n%64] 2 rfl HR.out.2 (by simp)) (by simp;omega) (by simp;unfold maxLen;omega) (by simp;omega)) ?_;rintro v3 w3 ⟨ho,hbl,hloc,hg⟩;rw[←HR.out.1] at ho;obtain⟨A3,c3,rfl⟩:=ho.form;have HO3:=Ad (Ac ho (HO2.out.2.trans (Below.trans ((Below.refl _ _).alloc hz2 _) hbl)));clear ho hbl hloc hg));go_ret;exact⟨A3,c3,rfl,HO3.out.1.sf.2,HO3.out.2⟩
 ·rw[hw];have hr:=HR0.out;rw[he] at hr;have hes: ∀e∈([224+n/4096,128+n/64%64,128+n%64]:List Int),0≤e∧e≤255:=by intro e hm;simp only[List.mem_cons,List.mem_nil_iff,or_false] at hm;omega
  have HR:=Ad (Ac hr hes);clear hr hw he hes;go_wp2_with(at_builtin;(refine av rfl _ _ 22 rfl (v:=.slice A1 b.length c1) (u:=.slice (some ⟨w2.heap.size,0,none⟩) 3 3) (by rfl) (by rfl) (a7 ju 22 _ w.heap.size 5 (.int .u8 0) 1 Tryz.underlying22 lJ rfl (by decide) _ b (([224+n/4096,128+n/64%64,128+n%64]:List Int).map byteOf) _ _ (HO2.out.1.alloc _) (tc w2 _ [224+n/4096,128+n/64%64,128+n%64] 3 rfl HR.out.2 (by simp)) (by simp;omega) (by simp;unfold maxLen;omega) (by simp;omega)) ?_;rintro v3 w3 ⟨ho,hbl,hloc,hg⟩;rw[←HR.out.1] at ho;obtain⟨A3,c3,rfl⟩:=ho.form;have HO3:=Ad (Ac ho (HO2.out.2.trans (Below.trans ((Below.refl _ _).alloc hz2 _) hbl)));clear ho hbl hloc hg));go_ret;exact⟨A3,c3,rfl,HO3.out.1.sf.2,HO3.out.2⟩
 ·rw[hw];have hr:=HR0.out;rw[he] at hr;have hes: ∀e∈([240+n/262144,128+n/4096%64,128+n/64%64,128+n%64]:List Int),0≤e∧e≤255:=by intro e hm;simp only[List.mem_cons,List.mem_nil_iff,or_false] at hm;omega
  have HR:=Ad (Ac hr hes);clear hr hw he hes;go_wp2_with(at_builtin;(refine av rfl _ _ 22 rfl (v:=.slice A1 b.length c1) (u:=.slice (some ⟨w2.heap.size,0,none⟩) 4 4) (by rfl) (by rfl) (a7 ju 22 _ w.heap.size 5 (.int .u8 0) 1 Tryz.underlying22 lJ rfl (by decide) _ b (([240+n/262144,128+n/4096%64,128+n/64%64,128+n%64]:List Int).map byteOf) _ _ (HO2.out.1.alloc _) (tc w2 _ [240+n/262144,128+n/4096%64,128+n/64%64,128+n%64] 4 rfl HR.out.2 (by simp)) (by simp;omega) (by simp;unfold maxLen;omega) (by simp;omega)) ?_;rintro v3 w3 ⟨ho,hbl,hloc,hg⟩;rw[←HR.out.1] at ho;obtain⟨A3,c3,rfl⟩:=ho.form;have HO3:=Ad (Ac ho (HO2.out.2.trans (Below.trans ((Below.refl _ _).alloc hz2 _) hbl)));clear ho hbl hloc hg));go_ret;exact⟨A3,c3,rfl,HO3.out.1.sf.2,HO3.out.2⟩
theorem wa{n:Int}(h:fB n=true)(rest:List UInt8):Lib.validD (jJ n++rest)=Lib.validD rest:=by
 have hk:=ot.1 h;have bt: ∀x:Int,0≤x→x≤255→(byteOf x).toNat=x.toNat:=fun x h0 h1=>by have:=pT h0 h1;omega
 have hwk:dP n≠0:=by unfold dP;rw[h,if_pos rfl];repeat' split;all_goals omega
 rcases ou n with⟨hw,he⟩|⟨hw,h1,h2,he⟩|⟨hw,h1,h2,he⟩|⟨hw,h1,h2,he⟩|⟨hw,h1,h2,he⟩;·exact absurd hw hwk
 all_goals unfold jJ;rw[he];simp only[List.map_cons,List.map_nil,List.cons_append,List.nil_append]
 ·exact Lib.validD_cons _ _ (by rw[bt n (by omega) (by omega)];omega)
 ·rw[Lib.validD_step _ (by simp),Lib.decodeL_N];have e:Lib.decodeN (byteOf (192+n/64)::byteOf (128+n%64)::rest).length ((byteOf (192+n/64)::byteOf (128+n%64)::rest).getD 0 0).toNat ((byteOf (192+n/64)::byteOf (128+n%64)::rest).getD 1 0).toNat ((byteOf (192+n/64)::byteOf (128+n%64)::rest).getD 2 0).toNat ((byteOf (192+n/64)::byteOf (128+n%64)::rest).getD 3 0).toNat=(n.toNat,2):=by simp only[List.getD_cons_zero,List.getD_cons_succ,List.length_cons];rw[bt (192+n/64) (by omega) (by omega),bt (128+n%64) (by omega) (by omega)];generalize(rest.getD 0 0).toNat=b2;generalize(rest.getD 1 0).toNat=b3;unfold Lib.decodeN;rw[if_neg (by omega),if_pos (by omega),if_pos (by omega)];congr 1;omega
  rw[e,if_neg (by simp)];rfl
 ·rw[Lib.validD_step _ (by simp),Lib.decodeL_N];have e:Lib.decodeN (byteOf (224+n/4096)::byteOf (128+n/64%64)::byteOf (128+n%64)::rest).length ((byteOf (224+n/4096)::byteOf (128+n/64%64)::byteOf (128+n%64)::rest).getD 0 0).toNat ((byteOf (224+n/4096)::byteOf (128+n/64%64)::byteOf (128+n%64)::rest).getD 1 0).toNat ((byteOf (224+n/4096)::byteOf (128+n/64%64)::byteOf (128+n%64)::rest).getD 2 0).toNat ((byteOf (224+n/4096)::byteOf (128+n/64%64)::byteOf (128+n%64)::rest).getD 3 0).toNat=(n.toNat,3):=by simp only[List.getD_cons_zero,List.getD_cons_succ,List.length_cons];rw[bt (224+n/4096) (by omega) (by omega),bt (128+n/64%64) (by omega) (by omega),bt (128+n%64) (by omega) (by omega)];generalize(rest.getD 0 0).toNat=b3;unfold Lib.decodeN;rw[if_neg (by omega),if_neg (by omega),if_pos (by omega),if_pos (by omega)];congr 1;omega
  rw[e,if_neg (by simp)];rfl
 ·rw[Lib.validD_step _ (by simp),Lib.decodeL_N];have e:Lib.decodeN (byteOf (240+n/262144)::byteOf (128+n/4096%64)::byteOf (128+n/64%64)::byteOf (128+n%64)::rest).length ((byteOf (240+n/262144)::byteOf (128+n/4096%64)::byteOf (128+n/64%64)::byteOf (128+n%64)::rest).getD 0 0).toNat ((byteOf (240+n/262144)::byteOf (128+n/4096%64)::byteOf (128+n/64%64)::byteOf (128+n%64)::rest).getD 1 0).toNat ((byteOf (240+n/262144)::byteOf (128+n/4096%64)::byteOf (128+n/64%64)::byteOf (128+n%64)::rest).getD 2 0).toNat ((byteOf (240+n/262144)::byteOf (128+n/4096%64)::byteOf (128+n/64%64)::byteOf (128+n%64)::rest).getD 3 0).toNat=(n.toNat,4):=by simp only[List.getD_cons_zero,List.getD_cons_succ,List.length_cons];rw[bt (240+n/262144) (by omega) (by omega),bt (128+n/4096%64) (by omega) (by omega),bt (128+n/64%64) (by omega) (by omega),bt (128+n%64) (by omega) (by omega)];unfold Lib.decodeN;rw[if_neg (by omega),if_neg (by omega),if_neg (by omega),if_pos (by omega),if_pos (by omega)];congr 1;omega
  rw[e,if_neg (by simp)];rfl
theorem tw: ∀(l:List Int),(∀n∈l,fB n=true)→b7 (strOf (l.flatMap jJ))=true:=by
 intro l h;unfold b7;rw[oH];induction l with|nil=>rfl|cons a l ih=>rw[List.flatMap_cons,wa (h a (by simp)),ih fun n hn=>h n (by simp[hn])]
theorem nD: ∀(l:List Int),(l.flatMap jJ).length≤4*l.length|[]=>by simp|a::l=>by have h1:=nD l;have h2:=wm a;simp only[List.flatMap_cons,List.length_append,List.length_cons];omega
theorem yT{w:World}{l:List Int}{A:Option Addr}{c:Nat}(h:SA w l A c){i:Nat}(hi:i<l.length): ∃b off,A=some ⟨b,off,none⟩∧b<w.heap.size∧a8 l[i]∧w.cell? ⟨b,off+i,none⟩=some (.int .i64 l[i]):=by
 obtain⟨b,off,cs,rfl,hb,⟨F,⟨_,rfl,hl⟩,_⟩,hc⟩:=h.at hi;exact⟨b,off,rfl,hb,hl,by simpa[aE.wd] using hc.c0⟩
theorem kT(l:List Int)(A:Option Addr)(c:Nat)(w:World)(hn:l.length≤250000)(hl:SA w l A c):Calls Tryz.prog 183 #[.slice A l.length c] w (bN w (.string (strOf (l.flatMap jJ)))):=by
 obtain⟨r,hr⟩: ∃r,r=strOf (l.flatMap jJ):=⟨_,rfl⟩;rw[←hr];have R:=Ad hr;clear hr;have E:=Ad hl;clear hl;go_enter Tryz.func183,Tryz.ntmps183;go_wp2_with fail;go_loopg[3,4] l.length (fun gk u3 i wr=> ∃(k:Nat) (bs:List UInt8) (A2:Option Addr) (c2:Nat),k≤l.length∧i=.int .i64 k∧gk=l.length-k∧u3=.slice A2 bs.length c2∧Hid (bs=(l.take k).flatMap jJ)∧SA wr bs A2 c2∧Below w.heap.size w wr);case atStart=>exact⟨0,[],some ⟨w.heap.size,0,none⟩,0,by omega,rfl,by omega,rfl,by show _=_;simp,(ay.dV _ 5 w.heap.size _ rfl (Nat.le_refl _)).sf.2.sa,ab (ae w) _⟩
 case round=>
  obtain⟨k,bs,A2,c2,hk,rfl,rfl,rfl,hbs,hsa,hbel⟩:=hrel;have hbl:bs.length≤1048576:=by rw[hbs.out];have:=nD (l.take k);rw[List.length_take] at this;omega
  by_cases hlt:k<l.length
  ·obtain⟨b,off,rfl,hb,hI,k0⟩:=yT (E.out.below hbel) hlt;have hi1:(k:Int)<l.length:=by omega
   have hi2:(0:Int)≤k:=by omega
   have HS:=Ad (Ac hsa hbel);clear hsa hbel;have HI:=Ad hI;clear hI;go_wp2_with fail;refine(mV bs l[k] A2 c2 wr hbl HI.out HS.out.1).mono ?_;rintro e w2 ⟨A3,c3,rfl,hs3,hb3⟩;have HS3:=Ad (Ac hs3.sa (ai HS.out.2 hb3));clear hs3 hb3;go_wp2_with fail;go_roundg(l.length-(k+1));case measure=>omega
   case rel=>exact⟨k+1,bs++jJ l[k],A3,c3,by omega,by go_num,rfl,by rw[List.length_append],by show _=_;rw[List.take_succ_eq_append_getElem hlt,List.flatMap_append,←hbs.out];simp,HS3.out.1,HS3.out.2⟩
  ·have e:k=l.length:=by omega
   subst e;have hcv:=bd (P:=Tryz.prog) Tryz.underlying22 Tryz.underlying5 Tryz.underlying9 hsa;have he:strOf bs=r:=by rw[R.out,hbs.out,List.take_length]
   rw[he] at hcv;have HB:=Ad hbel;clear hbel hsa;go_wp2_with fail;go_ret;exact⟨rfl,HB.out⟩
def zo(g:Nat)(code:List UInt8)(m:Nat)(w:World)(e:Ending)(w':World):Prop:= ∃s:ByteArray,e=.returned (.string s)∧(s.size≤m∧b7 s=true)∧Ce g w w'∧ez w' g code
theorem xq:(Tryz.prog.info? 3).map (fun i=>(i.zero,i.size,i.bytes))=some (some (.int .i64 0),1,8):=by
 kernel_rfl
theorem vN: ∀(w:World)(F:List Nat)(a:Int)(cs:List Value),aE.rp w F a cs→F=[]:=fun _ _ _ _ h=>h.1
theorem yn{W:World}{x:Int}(h:a8 x):SA (W.alloc (.cells #[.int .i64 x] 3)) [x] (some ⟨W.heap.size,0,none⟩) 1:=(ay.ow (RF.int (base:=W.heap.size) (w:=W) x h) 3 (Nat.le_refl _)).sf.2.sa
theorem ay.ce{α:Type}[aE α]{w w':World}{g base:Nat}{t:TypeId}{v:Value}{l:List α}(h:ay w base t v l)(hc:Ce g w w')(hg:g<base):ay w' base t v l:=by
 obtain⟨F,h1,h2⟩:=h;have hlt:=h1.aq;obtain⟨xs,h3,h4,h5⟩:=h1;have hk: ∀b,base≤b→b<w.heap.size→w'.heap[b]? =w.heap[b]? :=fun b h1 h2=>hc.heap (by omega) h2;refine⟨F,⟨xs,?_,h4.ak fun b hb=>hk b (h2.2 b hb).1 (h2.2 b hb).2.lt,h5⟩,h2.ak fun b hb=>hk b (h2.2 b hb).1 (h2.2 b hb).2.lt⟩;obtain⟨h6,h7⟩:=h3;refine⟨h6,?_⟩;rcases h7 with h7|⟨g,cap,cur,rfl,hb,hh,h8,h9,h10,h11⟩;·exact .inl h7
 ·exact .inr ⟨g,cap,cur,rfl,hb,(hk g hb (hlt g rfl).2).trans hh,h8,h9,h10,h11⟩
theorem Ce.andthen{g n:Nat}{code:List UInt8}{w w' w'':World}(h:Ce g w w'∧ez w' g code)(hb:Below n w' w'')(hn:w.heap.size≤n)(hg:g<n):Ce g w w''∧ez w'' g code:=by
 obtain⟨h1,A,c,i,hh,k1,k2,k3,k4,k5⟩:=h;refine⟨⟨h1.low.trans (hb.mono (by omega)),fun k a1 a2=>(hb.block k (by omega)).trans (h1.high k a1 a2)⟩,A,c,i,hh,(hb.block g hg).trans k1,k2,k3,k4,SS.ak k5 (fun x hx=>hb.block x (by omega)) (fun _ h=>h)⟩
theorem nF(g:Nat)(code:List UInt8)(w:World)(hc:ez w g code):Calls Tryz.prog 123 #[.pointer (some ⟨g,0,none⟩)] w (zo g code 20 w):=by
 have hg:=hc.lt;go_enter Tryz.func123,Tryz.ntmps123;go_wp2_with fail;refine(cC g code 2 w (by omega) (by omega) hc).mono ?_;rintro e w1 ⟨b,rfl,hce,hcur⟩;have hz1:g<w1.heap.size:=hcur.lt;have HX:=Ad (Ac hce hcur);clear hce hcur;cases b
 ·go_wp2_with fail;refine(ax g code 4 _ (by omega) (by omega) (HX.out.2.below (ab (ae w1) _))).mono ?_;rintro e w2 ⟨k,rfl,hk0,hk1,hce,hcur⟩;have hO:ay (α:=Int) (w1.alloc (.cells #[] 3)) w1.heap.size 3 (.slice (some ⟨w1.heap.size,0,none⟩) 0 0) []:=ay.dV _ _ _ _ rfl (Nat.le_refl _);have HO:=Ad (hO.ce hce hz1);clear hO;have hz2:w1.heap.size≤w2.heap.size:=by have:=hce.size;simp at this;omega
  have hw1:w.heap.size≤w1.heap.size:=HX.out.1.size;have HY:=Ad (Ac ((HX.out.1.add _ (by omega)).trans hce) hcur);clear hce hcur;obtain⟨n,rfl⟩: ∃n:Nat,k=n:=⟨k.toNat,by omega⟩;go_wp2_with fail;go_loopg[3,4] n (fun gk u3 i wr=> ∃(ns:List Int),i=.int .i64 gk∧gk≤n∧ns.length+gk=n∧Hid (∀x∈ns,x∈qO)∧ay wr w1.heap.size 3 u3 ns∧Ce g w wr∧ez wr g code∧w1.heap.size≤wr.heap.size);case atStart=>exact⟨[],rfl,Nat.le_refl _,by simp,Ad (by simp),HO.out,HY.out.1,HY.out.2,hz2⟩
  case round=>
   obtain⟨ns,rfl,hgn,hns,HNS,hown,hce,hcur,hzr⟩:=hrel;have HS:=Ad (Ac hown (Ac hce hcur));clear hown hce hcur;by_cases hlt:0<gk
   ·have hi1:(0:Int)<gk:=by omega
    go_wp2_with fail;refine(tS g code wr HS.out.2.2).mono ?_;rintro e w3 ⟨x,rfl,hxm,hce,hcur⟩;obtain⟨hx0,hx1⟩:=(qf x hxm).1;have HXM:=Ad hxm;clear hxm;have HO3:=Ad (HS.out.1.ce hce hz1);have hz3:w1.heap.size≤w3.heap.size:=Nat.le_trans hzr hce.size;have HS3:=Ad (Ac (HS.out.2.1.trans hce) hcur);clear hce hcur;go_wp2_with(at_builtin;(refine av rfl _ _ 24 rfl (v:=u3) (u:=.slice (some ⟨w3.heap.size,0,none⟩) 1 1) (by rfl) (by rfl) (a7 vN 24 _ w1.heap.size 3 (.int .i64 0) 8 Tryz.underlying24 xq rfl (by decide) u3 ns [x] _ _ (HO3.out.alloc _) (yn ⟨by omega,by omega⟩) (by simp;omega) (by simp;unfold maxLen;omega) (by simp;omega)) ?_;rintro r5 w5 ⟨ho5,hbl5,hlc5,hg5⟩;have HO5:=Ad (Ac ho5 (Ac hbl5 (Ac hlc5 hg5)));clear ho5 hbl5 hlc5 hg5));go_roundg(gk-1);case measure=>omega
    case rel=>have h5:=Ce.andthen (n:=w1.heap.size) HS3.out (Below.trans ((Below.refl _ _).alloc hz3 _) HO5.out.2.1) hw1 hz1;refine⟨ns++[x],by congr 1;omega,by omega,by simp;omega,Ad (fun y hy=>by rcases List.mem_append.1 hy with hy|hy;exact HNS.out y hy;rw[List.mem_singleton.1 hy];exact HXM.out),HO5.out.1,h5.1,h5.2,?_⟩;have:=HO5.out.2.1.size;simp at this;omega
   ·have hg0:gk=0:=by omega
    subst hg0;have hd: ¬((0:Int)<0):=by omega
    obtain⟨Au,cu,rfl⟩:=HS.out.1.form;have hnl:ns.length≤3:=by omega
    go_wp2_with fail;refine(kT ns Au cu wr (by omega) HS.out.1.sf.2.sa).mono ?_;rintro e w3 ⟨rfl,hb3⟩;have hsz:(strOf (ns.flatMap jJ)).size≤20:=by rw[cX];have:=nD ns;omega
    have hst:b7 (strOf (ns.flatMap jJ))=true:=tw ns fun x hx=>(qf x (HNS.out x hx)).2;generalize strOf (ns.flatMap jJ)=s at hsz hst ⊢;have HST:=Ad (Ac hsz hst);clear hsz hst;have hgr:g<wr.heap.size:=HS.out.2.2.lt;have h5:=Ad (Ce.andthen HS.out.2 hb3 (Nat.le_trans hw1 hzr) hgr);clear hb3;go_wp2_with fail;go_ret;exact⟨s,rfl,HST.out,h5.out.1,h5.out.2⟩
 ·go_wp2_with fail;refine(pM g code w1.heap.size 9 9 [⟨#[]⟩,⟨#[97]⟩,⟨#[98]⟩,⟨#[107,101,121]⟩,⟨#[120,32,121]⟩,⟨#[49]⟩,⟨#[195,169]⟩,⟨#[34]⟩,⟨#[92]⟩] _ (aj.new w1 _ _) (by omega) rfl (by omega) (by omega) (HX.out.2.below (ab (ae w1) _))).mono ?_;rintro e w2 ⟨s,rfl,hs,hce,hcur⟩;have hs8:s.size≤20∧b7 s=true:=by(have: ∀s∈([⟨#[]⟩,⟨#[97]⟩,⟨#[98]⟩,⟨#[107,101,121]⟩,⟨#[120,32,121]⟩,⟨#[49]⟩,⟨#[195,169]⟩,⟨#[34]⟩,⟨#[92]⟩]:List ByteArray),s.size≤20∧b7 s=true:=by decide);exact this s hs
  have HS8:=Ad hs8;clear hs8;have HY:=Ad (Ac ((HX.out.1.add _ (by omega)).trans hce) hcur);clear hce hcur hs;go_wp2_with fail;go_ret;exact⟨s,rfl,HS8.out,HY.out.1,HY.out.2⟩
end Go.Proofs.YtodpdjehjllhdaaGreatDoor
