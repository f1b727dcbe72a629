/- Part of a proof: contracts and plain laws. -/
import Derived.Test.YtodpdjehjllhdaaGreatDoorT03
set_option linter.unusedVariables false
set_option linter.unusedSimpArgs false
set_option maxRecDepth 100000
set_option maxHeartbeats 20000000
namespace Go.Proofs.YtodpdjehjllhdaaGreatDoor
open Go.RowKit
theorem nv(l:List UInt8):(strOf l).data.toList=l:=by
 simp[strOf]
theorem ld(l:List UInt8):(strOf l).size=l.length:=by
 simp[strOf,ByteArray.size]
theorem rB{l:List UInt8}(h: ∀b∈l,b.toNat<128):cf (strOf l)=true:=by
 unfold cf;rw[nv,Lib.validD_ascii l.length l (by rw[List.take_length];exact h),List.drop_length];rfl
theorem uQ{b:Nat}(h:b<16):(mH b).toNat<128:=by
 unfold mH;split;·rw[UInt8.toNat_ofNat_of_lt' (by show _<256;omega)];omega
 ·rw[UInt8.toNat_ofNat_of_lt' (by show _<256;omega)];omega
theorem gQ: ∀l:List UInt8,(oy l).length=2*l.length|[]=>rfl|b::l=>by have:=gQ l;unfold oy at this ⊢;rw[List.flatMap_cons,List.length_append,this];simp;omega
theorem xK(s:ByteArray):cf (mK s)=true:=by
 refine rB fun b hb=> ?_;unfold oy at hb;obtain⟨c,hc,hb⟩:=List.mem_flatMap.1 hb;have:=c.toNat_lt;rcases List.mem_cons.1 hb with rfl|hb;·exact uQ (by omega)
 ·rcases List.mem_cons.1 hb with rfl|hb;·exact uQ (by omega)
  ·cases hb
theorem vO(s:ByteArray):(mK s).size=2*s.size:=by
 unfold mK;rw[ld,gQ,Array.length_toList];rfl
theorem jU{n:Int}(h0:0≤n)(h1:n<10):eK n=strOf [UInt8.ofNat (48+n.toNat)]:=by
 unfold eK Lib.itoa;rw[if_neg (by omega),Lib.decDigits_one (by omega)]
theorem kl{u:aa}(h:bN u):bN (fl u):=by
 obtain⟨hx,hl,h⟩:=h;unfold fl;rcases h with⟨hk,h0,h1,hs⟩|⟨hk,h⟩
 ·rw[if_neg (by omega),jU h0 (by omega)];refine⟨rfl,rfl,.inr ⟨rfl,rfl,?_,rB fun b hb=> ?_⟩⟩;·unfold iL;rw[ld];simp
  ·rw[List.mem_singleton.1 hb,UInt8.toNat_ofNat_of_lt' (by show _<256;omega)];omega
 ·rw[if_pos hk];exact⟨hx,hl,.inr ⟨hk,h⟩⟩
theorem bN.rk{u:aa}(h:bN u):valOkP u=true:=by
 obtain⟨hx,hl,h⟩:=h;obtain⟨k,n,x,s,l⟩:=u;simp only at hx hl h;subst hx hl;rw[bT];simp only[valsOkP,Bool.and_true];rcases h with⟨rfl,h0,h1,rfl⟩|⟨rfl,rfl,hs,ht⟩;·unfold af;simp;omega
 ·unfold af;simp[ht]
theorem bN.same{u:aa}(h:bN u){way:Int}(hw:bn way≠true)(p:List GStep):projP way u p=(u,[]):=by
 have hw4:way≠4:=fun e=>hw (by rw[e];rfl);have h7:=h.2.2;refine xo (by omega) (by omega) (by omega) (np (by omega)) p

theorem tD{m e:Int}{r:Int×Int}(h:bC m e=some r):bg r.1 r.2=true:=by
 unfold bC at h;split at h;·injection h with h;subst h;rfl
 ·split at h;·rename_i h2;injection h with h;subst h;exact h2
  ·cases h
theorem og{n x m e:Int}(h:eP n x=some (m,e)):bg m e=true:=by
 unfold eP at h;split at h;·exact tD (r:=(m,e)) h
 ·cases h
theorem l6{m e:Int}(h:bg m e=true):(m=0∧e=0)∨(m≠0∧ -65535≤m∧m≤65535∧m.tmod 2≠0∧ -16≤e∧e≤45∧(e≤30∨(-65535≤m*2^(e-30).toNat∧m*2^(e-30).toNat≤65535))):=by
 unfold bg at h;by_cases hm:m=0;·rw[if_pos hm] at h;exact .inl ⟨hm,by simpa using h⟩
 ·rw[if_neg hm] at h;simp only[Bool.and_eq_true,Bool.or_eq_true,decide_eq_true_eq] at h;exact .inr ⟨hm,h.1.1.1.1,h.1.1.1.2,h.1.1.2,h.1.2.1,h.1.2.2,h.2⟩
theorem yg{k:Nat}(h:k≤30): ∃q:Int,(2:Int)^k=q∧1≤q∧q≤1073741824:=by
 refine⟨_,rfl,?_,?_⟩;·have:=Int.pow_pos (n:=2) (m:=k) (by omega);omega
 ·have:=Nat.pow_le_pow_right (n:=2) (by omega) h;have e:((2^k:Nat):Int)=(2:Int)^k:=by simp
  rw[←e];have:(2:Nat)^30=1073741824:=by decide
  omega
theorem lP{m q B:Int}(h0: -65535≤m)(h1:m≤65535)(hq0:1≤q)(hq1:q≤B): -(65535*B)≤m*q∧m*q≤65535*B:=by
 have h2:m*q≤65535*q:=Int.mul_le_mul_of_nonneg_right h1 (by omega);have h3: -65535*q≤m*q:=Int.mul_le_mul_of_nonneg_right h0 (by omega);constructor;·rw[Int.neg_mul] at h3;omega
 ·omega
theorem vB{m e:Int}(h:bg m e=true):valOkP (ca (aJ m e).1 (aJ m e).2)=true:=by
 unfold aJ ca;rcases l6 h with⟨rfl,rfl⟩|⟨hm,h0,h1,h2,h3,h4,h5⟩;·rfl
 ·by_cases he:0≤e
  ·rw[if_pos he];simp only[if_true];have hb: -1000000000000000≤m*2^e.toNat∧m*2^e.toNat≤1000000000000000:=by by_cases h30:e≤30;(·obtain⟨q,hq,hq0,hq1⟩:=yg (k:=e.toNat) (by omega);rw[hq];have:=lP h0 h1 hq0 hq1;omega);·rcases h5 with h5|h5;(·omega);·(have e1:e.toNat=(e-30).toNat+30:=by omega);rw[e1,Int.pow_add,←Int.mul_assoc];have:=lP (q:=2^30) (B:=1073741824) h5.1 h5.2 (by decide) (by decide);omega
   rw[bT];simp[af,valsOkP,hb.1,hb.2]
  ·rw[if_neg he];have hx:e≠0:=by omega
   simp only[if_neg hx];obtain⟨k,hk,hk1,hk2⟩: ∃k:Nat,(-e).toNat=k∧1≤k∧k≤16:=⟨_,rfl,by omega,by omega⟩;rw[hk];have hodd: ¬(2:Int) ∣ m:=fun hd=>h2 (Int.tmod_eq_zero_of_dvd hd);have h5b: ∃q:Int,(5:Int)^k=q∧1≤q∧q≤152587890625∧q%2=1:=by(have hk':k=1∨k=2∨k=3∨k=4∨k=5∨k=6∨k=7∨k=8∨k=9∨k=10∨k=11∨k=12∨k=13∨k=14∨k=15∨k=16:=by omega);rcases hk' with rfl|rfl|rfl|rfl|rfl|rfl|rfl|rfl|rfl|rfl|rfl|rfl|rfl|rfl|rfl|rfl<;>exact⟨_,rfl,by decide,by decide,by decide⟩
   obtain⟨q,hq,hq0,hq1,hq2⟩:=h5b;rw[hq];have hb:=lP h0 h1 hq0 hq1;have hd: ¬(10:Int) ∣ m*q:=by rintro⟨t,ht⟩;apply hodd;refine⟨m*((q+1)/2)-5*t,?_⟩;(have e1:q+1=2*((q+1)/2):=by omega);rw[Int.mul_sub,←Int.mul_assoc 2 m,Int.mul_comm 2 m,Int.mul_assoc m 2,←e1,Int.mul_add,ht];omega
   have hdig:eR (m*q)≤17:=(jm _).2 ⟨by omega,by omega⟩;have ht:(m*q).tmod 10≠0:=fun e0=>hd (Int.dvd_of_tmod_eq_zero e0);rw[bT];have hdec:aV (m*q) e=true:=by unfold aV;simp[hx,hdig,ht];omega
   simp[af,valsOkP,hdec];omega
mutual
def depG : aa → Nat
  | ⟨_, _, _, _, l⟩ => depL l
def depL : List aa → Nat
  | [] => 0
  | a :: l => max (depG a + 1) (depL l)
end
theorem ed(v:aa):depG v=depL v.l:=by
 cases v;rw[depG]
theorem kx{l:List aa}{d:Nat}:depL l≤d↔ ∀a∈l,depG a+1≤d:=by
 induction l with|nil=>simp[depL]|cons a l ih=>rw[depL,Nat.max_le,ih];simp
theorem du{v a:aa}(h:a∈v.l):depG a+1≤depG v:=by
 have:=kx.1 (Nat.le_refl (depL v.l)) a h;rw[ed v];exact this

theorem pt(cs:List ah):potL (ak cs)=(cs.map fun c=>2+potG c.name+potG c.val).sum:=by
 induction cs with|nil=>rfl|cons c cs ih=>rw[a6,potL,potL,ih,List.map_cons,List.sum_cons];omega
theorem qU{α:Type}(f:α→Nat){a b:List α}(h:a.Perm b):(a.map f).sum=(b.map f).sum:=by
 induction h with|nil=>rfl|cons x _ ih=>simp only[List.map_cons,List.sum_cons,ih]|swap x y l=>simp only[List.map_cons,List.sum_cons];omega|trans _ _ ih1 ih2=>rw[ih1,ih2]
theorem pP(f:ah→Nat): ∀l,((ar l).map f).sum≤(l.map f).sum|[]=>by simp[ar]|c::l=>by have:=pP f l;rw[ar];split;(·rw[List.map_cons,List.sum_cons];omega);·rw[List.map_cons,List.sum_cons,List.map_cons,List.sum_cons];omega
theorem fE: ∀l,(ar l).length≤l.length|[]=>by simp[ar]|c::l=>by have:=fE l;rw[ar];split;(·rw[List.length_cons];omega);·rw[List.length_cons,List.length_cons];omega
theorem j8: ∀(r:List (aa×List ag))(i:Nat),(aF r i).length=r.length/2|[],i=>by simp[aF]|[a],i=>by simp[aF]|a::b::l,i=>by rw[aF,List.length_cons,j8 l (i+1)];simp only[List.length_cons];omega
theorem oE: ∀(r:List (aa×List ag))(i:Nat),potL (ak (aF r i))≤potL (r.map (·.1))|[],i=>by simp[aF,ak,potL]|[a],i=>by simp[aF,ak,potL]|a::b::l,i=>by have:=oE l (i+1);rw[aF,a6,potL,potL,List.map_cons,List.map_cons,potL,potL];simp only;omega
theorem lU{cs:List ah}{u:aa}:u∈ak cs↔ ∃c∈cs,u=c.name∨u=c.val:=by
 unfold ak;rw[List.mem_flatMap];simp
theorem sI: ∀(cs:List ah)(i:Nat)(h:i<(ak cs).length),i%2=0→ ∃c∈cs,(ak cs)[i]=c.name|[],i,h,_=>by simp[ak] at h|c::cs,0,h,_=>⟨c,by simp,by simp[a6]⟩|c::cs,1,h,he=>by omega|c::cs,i+2,h,he=>by obtain⟨d,hd,e⟩:=sI cs i (by rw[a6] at h;simpa using h) (by omega);exact⟨d,by simp[hd],by simp only[a6,List.getElem_cons_succ];exact e⟩

theorem sQ{way:Int}{v:aa}(hok:valOkP v=true)(h9:v.kind≠9)(h10:v.kind≠10)(h11:v.kind≠11):valOkP (bW way v).1=true∧(bW way v).1.l=[]∧potG (bW way v).1≤potG v∧(bW way v).1.kind≠10:=by
 have ho:=(aR hok).1;have hl:v.l=[]:=by unfold af at ho;(repeat' (split at ho));(all_goals first|(simp at ho;done)|(simp at ho;first|exact ho.2.2.2|exact ho.2.2|exact ho.2.2.2.2|exact ho.2.2.2.2.2|exact ho.2|skip));all_goals first|omega|(exact ho.2.2.2.1)|skip
 have near:v.kind=3∨v.kind=6→valOkP (aB v.n v.x).1=true∧(aB v.n v.x).1.l=[]∧potG (aB v.n v.x).1≤potG v∧(aB v.n v.x).1.kind≠10:=by intro hk;(have hp:24≤potG v:=by rw[aS,if_neg (by omega),if_pos (by omega)];omega);unfold aB;split;(·exact⟨rfl,rfl,by rw[aS];simp[iY,potL],by simp[iY]⟩);·rename_i m e hne;have hf:=og hne;refine⟨?_,rfl,by rw[aS];simp[potL];omega,by simp⟩;rw[bT];simp[af,valsOkP,hf]
 unfold bW;split;·rename_i h;exact near (.inl h.1)
 ·split;·rename_i h;exact near (.inr h.1)
  ·split
   ·rename_i h;have hf:bg v.n v.x=true:=by unfold af at ho;simp[h.1] at ho;exact ho.1
    have hp:24≤potG v:=by rw[aS,if_neg (by omega),if_pos (by omega)];omega
    refine⟨vB hf,?_,?_,?_⟩;·unfold ca;split<;>rfl
    ·rw[aS];unfold ca;split<;>simp[potL]<;>omega
    ·unfold ca;split<;>simp
   ·split;·exact⟨rfl,rfl,by rw[aS];simp[iY,potL],by simp[iY]⟩
    ·split
     ·rename_i h;refine⟨?_,rfl,?_,by simp[iL]⟩;·rw[bT];simp[iL,af,valsOkP,xK]
      ·rw[aS,aS v,if_pos h.1];simp[iL,potL,vO]
     ·exact⟨hok,hl,Nat.le_refl _,h10⟩
theorem tT{v:aa}(hok:valOkP v=true)(h9:v.kind≠9)(h10:v.kind≠10)(h11:v.kind≠11):v.l=[]:=by
 have ho:=(aR hok).1;unfold af at ho;repeat' (split at ho)
 all_goals first|(simp at ho;done)|(simp at ho;first|exact ho.2.2.2|exact ho.2.2|exact ho.2.2.2.2|exact ho.2.2.2.2.2|exact ho.2|skip)
 all_goals first|omega|(exact ho.2.2.2.1)|skip
def n8(v u:aa):Prop:=valOkP u=true∧fV u∧potG u≤potG v∧depG u≤depG v
theorem tI{way k:Int}{a:aa}{i:Nat}{p:List GStep}(hok:valOkP a=true)(hn:fV a)(hm:k=10→i%2=0→bN a)(IH: ∀p,n8 a (projP way a p).1):n8 a (cU way k a i p).1∧(k=10→i%2=0→bN (cU way k a i p).1):=by
 unfold cU;by_cases hc:k=10∧i%2=0∧bn way=true
 ·rw[if_pos hc];have h0:=hm hc.1 hc.2.1;have h1:=kl h0;refine⟨⟨h1.rk,h1.yF,?_,?_⟩,fun _ _=>h1⟩
  ·have h2:=h1.2.1;show potG (fl a)≤potG a;unfold fl at h2 h1 ⊢;by_cases h7:a.kind=7;·simp only[if_pos h7];omega
   ·rw[if_neg h7] at h2 ⊢;have h3:=h0.2.2;rcases h3 with h3|h3;·rw[aS a,if_neg (by omega),if_pos (by omega),aS];simp only[jU h3.2.1 (show a.n<10 by omega)];simp[iL,potL,ld];omega
    ·omega
  ·rw[ed,h1.2.1];simp[depL]
 ·rw[if_neg hc];refine⟨IH _,fun hk hi=> ?_⟩;have h0:=hm hk hi;rw[h0.same (fun e=>hc ⟨hk,hi,e⟩)];exact h0
theorem sL: ∀(l m:List aa),l.length=m.length→(∀i(h:i<l.length)(h':i<m.length),potG l[i]≤potG m[i])→potL l≤potL m|[],[],_,_=>Nat.le_refl _|[],_::_,e,_=>by simp at e|_::_,[],e,_=>by simp at e|a::l,b::m,e,h=>by have h0:=h 0 (by simp) (by simp);simp only[List.getElem_cons_zero] at h0;(have:=sL l m (by simpa using e) fun i h1 h2=>by have:=h (i+1) (by simpa using h1) (by simpa using h2);simpa using this);rw[potL,potL];omega
theorem dc(way:Int)(v:aa):valOkP v=true→fV v→ ∀p,n8 v (projP way v p).1:=by
 refine aa.ind (p:=fun v=>valOkP v=true→fV v→ ∀p,n8 v (projP way v p).1) (fun v IH hok hn p=> ?_) v;obtain⟨ho,hl⟩:=aR hok;have IH': ∀i(hi:i<v.l.length) p,n8 v.l[i] (projP way v.l[i] p).1:=fun i hi=>IH i hi (bF hl hi) (hn.sub.at (List.getElem_mem hi));have hE: ∀(k:Int) i(hi:i<v.l.length) p,(k=10→v.kind=10)→n8 v.l[i] (cU way k v.l[i] i p).1∧(k=10→i%2=0→bN (cU way k v.l[i] i p).1):=fun k i hi p hk=>tI (bF hl hi) (hn.sub.at (List.getElem_mem hi)) (fun e e2=>(hn.own (hk e)).2 i hi e2) (IH' i hi);have hpl: ∀(k:Int) p,(k=10→v.kind=10)→potL ((projL way k v.l 0 p).map (·.1))≤potL v.l:=fun k p hk=>by refine sL _ _ (by rw[List.length_map,bK]) fun i h1 h2=> ?_;rw[List.getElem_map,dk way k p v.l 0 i h2,Nat.zero_add];exact(hE k i h2 p hk).1.2.2.1
 by_cases h9:v.kind=9
 ·rw[ee h9];have hmem: ∀a∈(projL way 9 v.l 0 p).map (·.1),∃i,∃h:i<v.l.length,n8 v.l[i] a:=by intro a ha;obtain⟨i,hi,e⟩:=List.getElem_of_mem ha;(have hi':i<v.l.length:=by rwa[List.length_map,bK] at hi);rw[List.getElem_map,dk way 9 p v.l 0 i hi',Nat.zero_add] at e;exact⟨i,hi',e▸(hE 9 i hi' p (by omega)).1⟩
  refine⟨?_,fV.of (by simp) (gS.all fun a ha=> ?_),?_,?_⟩;·rw[bT];simp only[Bool.and_eq_true];refine⟨by simp[af],?_⟩;rw[dF,List.all_eq_true];intro a ha;obtain⟨i,hi,h⟩:=hmem a ha;exact h.1
  ·obtain⟨i,hi,h⟩:=hmem a ha;exact h.2.1
  ·rw[aS,aS v];have:=hpl 9 p (by omega);simp only[h9];simp;omega
  ·rw[ed];simp only;rw[kx];intro a ha;obtain⟨i,hi,h⟩:=hmem a ha;have h1:=du (List.getElem_mem hi);have:=h.2.2.2;omega
 ·by_cases h10:v.kind=10
  ·rw[dK h10];unfold eH;show n8 v ⟨10,0,0,.empty,ak (aY way (ar (aF (projL way 10 v.l 0 p) 0)))⟩;have hpair: ∀c∈aY way (ar (aF (projL way 10 v.l 0 p) 0)),∃i,∃h:i<v.l.length,∃j,∃h':j<v.l.length,n8 v.l[i] c.name∧bN c.name∧n8 v.l[j] c.val:=by intro c hc;obtain⟨j,hj,rfl⟩:=nD _ _ _ (vr hc);(have hj':2*j+1<v.l.length:=by rwa[bK] at hj);have e0:=dk way 10 p v.l 0 (2*j) (by omega);have e1:=dk way 10 p v.l 0 (2*j+1) hj';rw[Nat.zero_add] at e0 e1;have k0:=hE 10 (2*j) (by omega) p (fun _=>h10);have k1:=hE 10 (2*j+1) hj' p (fun _=>h10);exact⟨2*j,by omega,2*j+1,hj',by simp only;rw[e0];exact k0.1,by simp only;rw[e0];exact k0.2 rfl (by omega),by simp only;rw[e1];exact k1.1⟩
   refine⟨?_,fV.of (fun _=>⟨?_,fun i hi he=> ?_⟩) (gS.all fun a ha=> ?_),?_,?_⟩
   ·rw[bT];simp only[Bool.and_eq_true];refine⟨by simp[af,cK],?_⟩;rw[dF,List.all_eq_true];intro a ha;obtain⟨c,hc,e⟩:=lU.1 ha;obtain⟨i,hi,j,hj,h1,h2,h3⟩:=hpair c hc;rcases e with rfl|rfl;·exact h1.1
    ·exact h3.1
   ·have h1:=(hn.own h10).1;have h2:=fE (aF (projL way 10 v.l 0 p) 0);have h3:=(dA way (ar (aF (projL way 10 v.l 0 p) 0))).length_eq;rw[j8,bK] at h2;show(ak _).length≤6;rw[cK];omega
   ·obtain⟨c,hc,e⟩:=sI _ i hi he;obtain⟨_,_,_,_,_,h2,_⟩:=hpair c hc;show bN ((ak _)[i]);rw[e];exact h2
   ·obtain⟨c,hc,e⟩:=lU.1 ha;obtain⟨i,hi,j,hj,h1,h2,h3⟩:=hpair c hc;rcases e with rfl|rfl;·exact h1.2.1
    ·exact h3.2.1
   ·rw[aS,aS v];simp only[h10];have h1:=hpl 10 p (fun _=>h10);have h2:=oE (projL way 10 v.l 0 p) 0;have h3:=pP (fun c=>2+potG c.name+potG c.val) (aF (projL way 10 v.l 0 p) 0);have h4:=qU (fun c=>2+potG c.name+potG c.val) (dA way (ar (aF (projL way 10 v.l 0 p) 0)));rw[pt] at h2;simp only[show((10:Int)=8)=False by simp,show((10:Int)=3∨(10:Int)=4∨(10:Int)=6)=False by simp,if_false];rw[pt,h4];have:(ByteArray.empty).size=0:=rfl;omega
   ·rw[ed];simp only;rw[kx];intro a ha;obtain⟨c,hc,e⟩:=lU.1 ha;obtain⟨i,hi,j,hj,h1,h2,h3⟩:=hpair c hc;have d1:=du (List.getElem_mem hi);have d2:=du (List.getElem_mem hj);rcases e with rfl|rfl;·have:=h1.2.2.2;omega
    ·have:=h3.2.2.2;omega
  ·by_cases h11:v.kind=11
   ·obtain⟨a,hv,hv0,hv1⟩:=gz ho h11;have ha:v.l=[a]:=by rw[hv]
    have hlt:0<v.l.length:=by rw[ha];simp
    have ha0:v.l[0]=a:=by simp[ha]
    have hI:=IH' 0 hlt (p++[⟨0,false⟩]);rw[ha0] at hI;rw[gO h11 a ha];generalize projP way a (p++[⟨0,false⟩])=r at hI ⊢;have hda:=du (v:=v) (a:=a) (by rw[ha];simp);split
    ·refine⟨?_,fV.of (by simp) (gS.all fun b hb=> ?_),?_,?_⟩;·rw[bT];simp[af,valsOkP,hI.1,hv0,hv1]
     ·rw[List.mem_singleton.1 hb];exact hI.2.1
     ·rw[aS,aS v,ha];have:=hI.2.2.1;have:(ByteArray.empty).size=0:=rfl;simp only[h11,potL];simp;omega
     ·rw[ed];simp only;rw[kx];intro b hb;rw[List.mem_singleton.1 hb];have:=hI.2.2.2;omega
    ·refine⟨hI.1,hI.2.1,?_,?_⟩;·have:=hI.2.2.1;rw[aS v,ha,potL,potL];simp only;omega
     ·have:=hI.2.2.2;simp only;omega
   ·rw[eh h9 h10 h11];obtain⟨k1,k2,k3,k4⟩:=sQ (way:=way) hok h9 h10 h11;refine⟨k1,fV.of (fun e=>absurd e k4) (gS.all fun a ha=> ?_),k3,?_⟩;·simp only at ha;rw[k2] at ha;cases ha
    ·rw[ed];simp only;rw[k2];simp[depL]
theorem bo(v:aa):valOkP v=true→bulkVal v≤potG v:=by
 refine aa.ind (p:=fun v=>valOkP v=true→bulkVal v≤potG v) (fun v IH hok=> ?_) v;obtain⟨ho,hl⟩:=aR hok;rw[au,aS];have h1:v.s.size≤if v.kind=8 then 2*v.s.size else if v.kind=3∨v.kind=4∨v.kind=6 then 24 else v.s.size:=by split;(·omega);·split;(·rename_i h;(have:v.s=.empty:=by unfold af at ho;rcases h with h|h|h<;>simp[h] at ho;(·exact ho.2.2.1);(·exact ho.2.1);·exact ho.2.2.1);rw[this];show 0≤24;omega);·omega
 have h2: ∀l:List aa,(∀i(h:i<l.length),bulkVal l[i]≤potG l[i])→bulkVals l≤potL l:=by intro l;induction l with|nil=>intro _;simp[bulkVals,potL]|cons a l ih=>intro h;have h0:=h 0 (by simp);simp only[List.getElem_cons_zero] at h0;(have:=ih fun i hi=>by have:=h (i+1) (by simpa using hi);simpa using this);rw[bulkVals,potL];omega
 have:=h2 v.l fun i hi=>IH i hi (bF hl hi);omega
def jf(n d:Nat)(l:List ag):Prop:=l.length≤n∧ ∀x∈l,x.p.length≤d∧1≤x.kind∧x.kind≤9
theorem jf.nil(n d:Nat):jf n d []:=⟨by simp,by simp⟩
theorem jf.one{n d:Nat}{x:ag}(hn:1≤n)(h:x.p.length≤d∧1≤x.kind∧x.kind≤9):jf n d [x]:=⟨by simpa using hn,by simpa using h⟩
theorem jf.app{n m d:Nat}{a b:List ag}(ha:jf n d a)(hb:jf m d b):jf (n+m) d (a++b):=⟨by rw[List.length_append];have:=ha.1;have:=hb.1;omega,fun x hx=>by rcases List.mem_append.1 hx with h|h;(·exact ha.2 x h);·exact hb.2 x h⟩
theorem jf.mono{n m d e:Nat}{a:List ag}(h:jf n d a)(hn:n≤m)(hd:d≤e):jf m e a:=⟨Nat.le_trans h.1 hn,fun x hx=>⟨Nat.le_trans (h.2 x hx).1 hd,(h.2 x hx).2⟩⟩
theorem ka(way:Int)(v:aa):0≤(bW way v).2∧(bW way v).2≤5:=by
 have near:0≤(aB v.n v.x).2∧(aB v.n v.x).2≤5:=by unfold aB;split;(·exact⟨by decide,by decide⟩);·simp only;split<;>exact⟨by decide,by decide⟩
 unfold bW;split;·exact near
 ·split;·exact near
  ·split;·exact⟨by simp,by simp⟩
   ·split;·exact⟨by simp,by simp⟩
    ·split<;>exact⟨by simp,by simp⟩
theorem r9(way:Int){d:Nat}{p:List GStep}(hp:p.length+1≤d): ∀(l:List aa)(i n:Nat),(∀j(h:j<l.length),jf (1+bulkVal l[j]) d (cU way 10 l[j] (i+j) p).2)→jf (bulkVals l) d (aU p (aF (projL way 10 l i p) n))|[],i,n,_=>by rw[projL,aF];exact jf.nil _ _;simp|[a],i,n,_=>by rw[cC,projL,aF];exact jf.nil _ _;simp|a::b::l,i,n,h=>by have h0:=h 0 (by simp);have h1:=h 1 (by simp);simp only[List.getElem_cons_zero,Nat.add_zero,List.getElem_cons_succ] at h0 h1;(have hr:=r9 way hp l (i+1+1) (n+1) fun j hj=>by have:=h (j+1+1) (by simpa using hj);simp only[List.getElem_cons_succ] at this;rwa[show i+(j+1+1)=i+1+1+j by omega] at this);rw[cC,cC,aF,aU,bulkVals,bulkVals];refine(jf.app (n:=(1+bulkVal a)+(1+bulkVal b)) ?_ hr).mono (by omega) (Nat.le_refl _);split;(·exact jf.one (by omega) ⟨by simp;omega,by simp,by simp⟩);·exact h0.app h1
theorem oG(way k:Int){d:Nat}{p:List GStep}: ∀(l:List aa)(i:Nat),(∀j(h:j<l.length),jf (1+bulkVal l[j]) d (cU way k l[j] (i+j) p).2)→jf (bulkVals l) d ((projL way k l i p).flatMap (·.2))|[],i,_=>by rw[projL];exact jf.nil _ _|a::l,i,h=>by have h0:=h 0 (by simp);simp only[List.getElem_cons_zero,Nat.add_zero] at h0;(have h1:=oG way k l (i+1) fun j hj=>by have:=h (j+1) (by simpa using hj);simp only[List.getElem_cons_succ] at this;rwa[show i+(j+1)=i+1+j by omega] at this);rw[cC,List.flatMap_cons,bulkVals];exact h0.app h1
theorem dj(way:Int)(v:aa): ∀p,jf (1+bulkVal v) (p.length+depG v) (projP way v p).2:=by
 refine aa.ind (p:=fun v=> ∀p,jf (1+bulkVal v) (p.length+depG v) (projP way v p).2) (fun v IH p=> ?_) v;have hE: ∀k i(hi:i<v.l.length) p,jf (1+bulkVal v.l[i]) (p.length+depG v) (cU way k v.l[i] i p).2:=by intro k i hi p;have hd:=du (List.getElem_mem hi);unfold cU;split;(·simp only;split;(·exact jf.nil _ _);·exact jf.one (by omega) ⟨by simp;omega,by simp,by simp⟩);·exact(IH i hi _).mono (Nat.le_refl _) (by simp;omega)
 rw[au];have hE0: ∀k j(hj:j<v.l.length),jf (1+bulkVal v.l[j]) (p.length+depG v) (cU way k v.l[j] (0+j) p).2:=fun k j hj=>by rw[Nat.zero_add];exact hE k j hj p
 by_cases h9:v.kind=9;·rw[ee h9];exact(oG way 9 v.l 0 (hE0 9)).mono (by omega) (Nat.le_refl _)
 ·by_cases h10:v.kind=10
  ·rw[dK h10];unfold eH;simp only;have ho:jf 1 (p.length+depG v) (if(aY way (ar (aF (projL way 10 v.l 0 p) 0))).map ah.at_=(ar (aF (projL way 10 v.l 0 p) 0)).map ah.at_ then[] else[⟨9,p⟩]):=by split;(·exact jf.nil _ _);·exact jf.one (by omega) ⟨by simp,by simp,by simp⟩
   by_cases hl:v.l=[]
   ·refine((jf.app (n:=0) ?_ ho)).mono (by omega) (Nat.le_refl _);rw[hl,projL,aF];·exact jf.nil _ _
    ·simp
   ·have hd:1≤depG v:=by obtain⟨a,ha⟩:=List.exists_mem_of_ne_nil _ hl;have:=du ha;omega
    exact((r9 way (by omega) v.l 0 0 (hE0 10)).app ho).mono (by omega) (Nat.le_refl _)
  ·by_cases h11:v.kind=11
   ·obtain⟨k,n,x,s,l⟩:=v;simp only at h11;subst h11;rw[projP];simp only[show((11:Int)=10)=False by simp,show((11:Int)=9)=False by simp,if_false,if_true];have h:=oG way 11 l 0 (hE0 11);split;·exact h.mono (by omega) (Nat.le_refl _)
    ·exact(h.app (jf.one (n:=1) (x:=⟨6,p⟩) (by omega) ⟨by simp,by simp,by simp⟩)).mono (by omega) (Nat.le_refl _)
   ·rw[eh h9 h10 h11];simp only;split;·exact jf.nil _ _
    ·have:=ka way v;exact jf.one (by omega) ⟨by simp,by simp only;omega,by simp only;omega⟩

def cj(p:List GStep):List ah→List ag|[]=>[]|c::l=>(if cH c l then[⟨8,p++[⟨c.at_,true⟩]⟩] else c.nl)++cj p l
theorem iS(p:List GStep): ∀cs,(aU p cs).Perm (cj p cs++(ar cs).flatMap (·.vl))|[]=>by simp[aU,cj,ar]|c::cs=>by have h:=iS p cs;rw[aU,cj,ar];split;(·rw[List.append_assoc];exact h.append_left _);·rw[List.flatMap_cons,List.append_assoc,List.append_assoc];refine List.Perm.append_left _ ?_;refine(h.append_left _).trans ?_;rw[←List.append_assoc,←List.append_assoc];exact List.Perm.append_right _ List.perm_append_comm
theorem kq{α β:Type}{f:α→List β}{a b:List α}(h:a.Perm b):(a.flatMap f).Perm (b.flatMap f):=by
 induction h with|nil=>exact .refl _|cons x _ ih=>rw[List.flatMap_cons,List.flatMap_cons];exact ih.append_left _|swap x y l=>rw[List.flatMap_cons,List.flatMap_cons,List.flatMap_cons,List.flatMap_cons,←List.append_assoc,←List.append_assoc];exact List.Perm.append_right _ List.perm_append_comm|trans _ _ ih1 ih2=>exact ih1.trans ih2
theorem kO(way:Int)(cs:List ah)(p:List GStep):(eH way cs p).2.Perm (cj p cs++(aY way (ar cs)).flatMap (·.vl)++if(aY way (ar cs)).map ah.at_=(ar cs).map ah.at_ then[] else[⟨9,p⟩]):=by
 unfold eH;refine List.Perm.append_right _ ?_;exact(iS p cs).trans ((kq (dA way (ar cs)).symm).append_left _)
section
section
variable {α : Type} [aD α]
def aA(w:World)(base:Nat)(t:TypeId)(v:Value)(l:List α)(S:Nat→Prop):Prop:= ∃F,dz w base t v l F∧ ∀b,b∈F→S b
variable {w w' : World} {base : Nat} {t : TypeId} {v : Value} {l : List α} {S : Nat → Prop}
theorem aA.form(h:aA w base t v l S): ∃A c,v=.slice A l.length c:=h.choose_spec.1.form
theorem aA.aq(h:aA w base t v l S): ∀g,v.ownBlock=some g→base≤g∧g<w.heap.size:=h.choose_spec.1.aq
theorem aA.qc(w:World)(t:TypeId)(base:Nat)(hb:base≤w.heap.size)(S:Nat→Prop):aA (α:=α) (w.alloc (.cells #[] t)) base t (.slice (some ⟨w.heap.size,0,none⟩) 0 0) [] S:=⟨[],⟨[],World.ownsRow_lit w #[] 0 hb (by simp) (by simp),⟨rfl,rfl⟩,by simp⟩,by simp⟩
theorem aA.al(h:aA w base t v l S)(hb:Below w.heap.size w w')(hS: ∀b,S b→b<w.heap.size):aA w' base t v l S:=let⟨F,h1,h2⟩:=h;⟨F,h1.below (fun b hm=>hS b (h2 b hm)) hb,h2⟩
theorem aA.ss{A:Option Addr}{n c:Nat}(h:aA w base t (.slice A n c) l S)(w':World)(S':Nat→Prop)(hk: ∀b,((Value.slice A n c).ownBlock=some b∨S b)→w'.heap[b]? =w.heap[b]?)(hS: ∀b,((Value.slice A n c).ownBlock=some b∨S b)→S' b):n=l.length∧SS w' S' l A c:=by
 obtain⟨F,h1,h2⟩:=h;obtain⟨hn,F',h3,h4⟩:=h1.zD;have hF: ∀b,b∈F'→(Value.slice A n c).ownBlock=some b∨S b:=by rcases h4 with rfl|⟨g,rfl,rfl,h5,h6,h7⟩;(·simp);·intro b hb;rcases List.mem_cons.1 hb with rfl|hb;(·exact .inl rfl);·exact .inr (h2 b hb)
 exact⟨hn,F',h3.al fun b hb=>hk b (hF b hb),fun b hb=>hS b (hF b hb)⟩
theorem aA.mono{S':Nat→Prop}(h:aA w base t v l S)(hS: ∀b,S b→S' b):aA w base t v l S':=let⟨F,h1,h2⟩:=h;⟨F,h1,fun b hb=>hS b (h2 b hb)⟩
variable {P : Program} {W : World}
def iT(W:World)(base:Nat)(e:TypeId)(v:Value)(l:List α)(S:Nat→Prop)(v':Value)(w':World):Prop:=aA w' base e v' l S∧Below base W w'∧(v'.ownBlock=v.ownBlock∨v'.ownBlock=some W.heap.size)∧W.grownBy w' v.ownBlock
theorem fN(t ty:TypeId)(base:Nat)(e:TypeId)(z:Value)(bytes:Nat)(ht:P.underlying t=some (.slice e))(hinfo:(P.info? e).map (fun i=>(i.zero,i.size,i.bytes))=some (some z,aD.wd α,bytes))(hzs:z.cells.size=aD.wd α)(hsz:0<aD.wd α)(v:Value)(l:List α)(el:α)(cs:List Value)(ad:Addr)(c:Nat)(S:Nat→Prop)(hown:aA W base e v l S)(hS: ∀b,S b→b<W.heap.size∧v.ownBlock≠some b)(hr:RS W S el cs)(hcells: ∀j u,cs[j]? =some u→W.cell? (ad.add j)=some u)(hbytes:(l.length+1)*bytes≤140737488355328)(h63:l.length+1≤maxLen)(hbW:base≤W.heap.size): ∃v' w',(Builtin.append_ #[t,t] ty #[v,.slice (some ad) 1 c]).run P W=.ok v' w'∧iT W base e v (l++[el]) S v' w':=by
 obtain⟨F',h1',hr2⟩:=hr;have hel:aN W [el] F' cs:=aN.single h1';obtain⟨i,hi,hz,hsize,hby⟩:=info_parts hinfo;obtain⟨F,hC,hlt⟩:=hown;have hgl:=hC.aq;obtain⟨xs,h1,h2,h3⟩:=hC;have hF: ∀g,v.ownBlock=some g→g∉F':=fun g hg hm=>(hS g (hr2 g hm)).2 hg;have hltS: ∀b,b∈F++F'→S b:=fun b hm=>by rcases List.mem_append.1 hm with hm|hm;(·exact hlt b hm);·exact hr2 b hm
 obtain⟨v',w',hrun,h4,h5,_,h6⟩:=run_append_own_at (P:=P) W base t ty e i z (aD.wd α) bytes ht hi hz hsize hby hzs hsz v l.length xs h1 ad 1 c cs hel.len hcells hel.one h63 hbytes hbW;exact⟨v',w',hrun,⟨F++F',dz.grown h2 h3 hel hF (fun b hb=>(hS b (hltS b hb)).1) h4 h5 h6,hltS⟩,bM h5 hbW fun k hk=>(hgl k hk).1,h6,h5⟩
theorem pn(t ty:TypeId)(base:Nat)(e:TypeId)(z:Value)(bytes:Nat)(ht:P.underlying t=some (.slice e))(hinfo:(P.info? e).map (fun i=>(i.zero,i.size,i.bytes))=some (some z,aD.wd α,bytes))(hzs:z.cells.size=aD.wd α)(hsz:0<aD.wd α)(v:Value)(l ys:List α)(A:Option Addr)(c:Nat)(S S0:Nat→Prop)(hown:aA W base e v l S)(hS: ∀b,S b→b<W.heap.size∧v.ownBlock≠some b)(hr:SS W S0 ys A c)(hS0: ∀F xs,aN W ys F xs→(∀b,b∈F→S0 b)→ ∀b,b∈F→S b)(hbytes:(l.length+ys.length)*bytes≤140737488355328)(h63:l.length+ys.length≤maxLen)(hbW:base≤W.heap.size): ∃v' w',(Builtin.append_ #[t,t] ty #[v,.slice A ys.length c]).run P W=.ok v' w'∧iT W base e v (l++ys) S v' w':=by
 have gen: ∀(ad:Addr)(F':List Nat)(news:List Value),aN W ys F' news→(∀b,b∈F'→S b)→(∀j u,news[j]? =some u→W.cell? (ad.add j)=some u)→ ∃v' w',(Builtin.append_ #[t,t] ty #[v,.slice (some ad) ys.length c]).run P W=.ok v' w'∧iT W base e v (l++ys) S v' w':=by intro ad F' news hel hr2 hcells;obtain⟨i,hi,hz,hsize,hby⟩:=info_parts hinfo;obtain⟨F,hC,hlt⟩:=hown;have hgl:=hC.aq;obtain⟨xs,h1,h2,h3⟩:=hC;have hF: ∀g,v.ownBlock=some g→g∉F':=fun g hg hm=>(hS g (hr2 g hm)).2 hg;(have hltS: ∀b,b∈F++F'→S b:=fun b hm=>by rcases List.mem_append.1 hm with hm|hm;(·exact hlt b hm);·exact hr2 b hm);obtain⟨v',w',hrun,h4,h5,_,h6⟩:=run_append_own_at (P:=P) W base t ty e i z (aD.wd α) bytes ht hi hz hsize hby hzs hsz v l.length xs h1 ad ys.length c news hel.len hcells hel.one h63 hbytes hbW;exact⟨v',w',hrun,⟨F++F',dz.grown h2 h3 hel hF (fun b hb=>(hS b (hltS b hb)).1) h4 h5 h6,hltS⟩,bM h5 hbW fun k hk=>(hgl k hk).1,h6,h5⟩
 obtain⟨F0,⟨hl1,hl2,hl3⟩,hr2⟩:=hr;rcases hl3 with⟨rfl,rfl,hn⟩|⟨b,off,F1,news,rfl,rfl,hel,hc⟩;·cases A with|none=>rw[hn rfl];obtain⟨F,hC,hFr⟩:=hown;exact⟨v,W,fv base t ty e z bytes ht hinfo v l F hC,by rw[List.append_nil];exact⟨F,hC,hFr⟩,Below.refl _ _,.inl rfl,gd _ _⟩|some ad=>exact gen ad [] [] ⟨rfl,rfl⟩ (by simp) (fun j u hj=>by simp at hj)
 ·refine gen ⟨b,off,none⟩ F1 news hel (hS0 F1 news hel fun b hb=>hr2 b (List.mem_cons_of_mem _ hb)) (fun j u hj=> ?_);have e1:(⟨b,off,none⟩:Addr).add j=⟨b,off+j,none⟩:=by unfold Addr.add;split;(·rename_i h;subst h;rfl);·rfl
  rw[e1];exact hc j u hj
end
end
section
section
variable {α : Type} [aD α]
def p8(base:Nat)(w:World)(b:Nat):Prop:=base≤b∧b<w.heap.size
def SB(base:Nat)(w:World)(l:List α)(A:Option Addr)(c:Nat):Prop:=SS w (p8 base w) l A c
def RB(base:Nat)(w:World)(a:α)(cs:List Value):Prop:=RS w (p8 base w) a cs
def aP(w:World)(base:Nat)(t:TypeId)(v:Value)(l:List α):Prop:=aA w base t v l (p8 base w)
variable {w w' : World} {base base' : Nat} {t : TypeId} {v : Value} {l : List α} {A : Option Addr} {c : Nat} {a : α} {cs : List Value}
theorem SB.sa(h:SB base w l A c):SA w l A c:=let⟨F,h1,h2⟩:=h;⟨F,h1,fun b hb=>(h2 b hb).2⟩
theorem SB.mono(h:SB base w l A c)(hb:base'≤base):SB base' w l A c:=let⟨F,h1,h2⟩:=h;⟨F,h1,fun b hm=>⟨Nat.le_trans hb (h2 b hm).1,(h2 b hm).2⟩⟩
theorem RB.mono(h:RB base w a cs)(hb:base'≤base):RB base' w a cs:=let⟨F,h1,h2⟩:=h;⟨F,h1,fun b hm=>⟨Nat.le_trans hb (h2 b hm).1,(h2 b hm).2⟩⟩
theorem SB.below(h:SB base w l A c)(hb:Below w.heap.size w w'):SB base w' l A c:=SS.al h (fun b h=>hb.block b h.2) (fun b h=>⟨h.1,Nat.lt_of_lt_of_le h.2 hb.size⟩)
theorem RB.below(h:RB base w a cs)(hb:Below w.heap.size w w'):RB base w' a cs:=RS.al h (fun b h=>hb.block b h.2) (fun b h=>⟨h.1,Nat.lt_of_lt_of_le h.2 hb.size⟩)
theorem SF.sb(h:SF base w l A c):SB base w l A c:=let⟨F,h1,h2⟩:=h;⟨F,h1,fun b hb=>⟨(h2.2 b hb).1,(h2.2 b hb).2.lt⟩⟩
theorem SB.nil(base:Nat)(w:World):SB (α:=α) base w [] none 0:=⟨[],⟨by simp,by simp,.inl ⟨rfl,rfl,fun _=>rfl⟩⟩,by simp⟩
theorem SB.set(h:SB base w l A c){g:Nat}(hg:g<base)(p:Addr)(hp:p.block=g)(u:Value):SB base (w.setCell p u) l A c:=by
 refine SS.al h (fun b hb=>Below.heap_setCell w p u b (by have:=hb.1;omega)) (fun b hb=>⟨hb.1,by simpa using hb.2⟩)
theorem aP.form(h:aP w base t v l): ∃A c,v=.slice A l.length c:=aA.form h
theorem aP.aq(h:aP w base t v l): ∀g,v.ownBlock=some g→base≤g∧g<w.heap.size:=aA.aq h
theorem aP.below(h:aP w base t v l)(hb:Below w.heap.size w w'):aP w' base t v l:=aA.mono (aA.al h hb fun b hb=>hb.2) fun b h=>⟨h.1,Nat.lt_of_lt_of_le h.2 hb.size⟩
theorem aP.qc(w:World)(t:TypeId)(base:Nat)(hb:base≤w.heap.size):aP (α:=α) (w.alloc (.cells #[] t)) base t (.slice (some ⟨w.heap.size,0,none⟩) 0 0) []:=aA.qc w t base hb _
theorem ay.cM(h:ay w base t v l):aP w base t v l:=let⟨F,h1,h2⟩:=h;⟨F,h1,fun b hb=>⟨(h2.2 b hb).1,(h2.2 b hb).2.lt⟩⟩
theorem aP.oF(w:World)(base:Nat)(t:TypeId):aP (α:=α) w base t (.slice none 0 0) []:=(ay.oF w base t).cM
theorem aP.sb{A:Option Addr}{n c:Nat}(h:aP w base t (.slice A n c) l):n=l.length∧SB base w l A c:=by
 obtain⟨h1,h2⟩:=aA.ss h w (p8 base w) (fun _ _=>rfl) (fun b hb=>by rcases hb with hb|hb;(·exact aP.aq h b hb);·exact hb);exact⟨h1,h2⟩
theorem aP.set(h:aP w base t v l){p:Addr}(hp:p.block<base)(u:Value):aP (w.setCell p u) base t v l:=by
 obtain⟨F,h1,h2⟩:=h;have hlt:=h1.aq;obtain⟨xs,h3,h4,h5⟩:=h1;refine⟨F,⟨xs,?_,h4.al fun b hb=>Below.heap_setCell w p u b (fun e=>by have:=(h2 b hb).1;omega),h5⟩,fun b hb=>⟨(h2 b hb).1,by simpa[World.setCell] using(h2 b hb).2⟩⟩;obtain⟨h6,h7⟩:=h3;refine⟨h6,?_⟩;rcases h7 with h7|⟨g,cap,cur,rfl,hb,hh,h8,h9,h10,h11⟩;·exact .inl h7
 ·exact .inr ⟨g,cap,cur,rfl,hb,(Below.heap_setCell w p u g (fun e=>by omega)).trans hh,h8,h9,h10,h11⟩
variable {P : Program} {W : World}
def zu(W:World)(base:Nat)(e:TypeId)(v:Value)(l:List α)(v':Value)(w':World):Prop:=aP w' base e v' l∧Below base W w'∧(v'.ownBlock=v.ownBlock∨v'.ownBlock=some W.heap.size)∧W.grownBy w' v.ownBlock
theorem iT.zT{S:Nat→Prop}{v':Value}(h:iT W base t v l S v' w')(hS: ∀b,S b→p8 base W b):zu W base t v l v' w':=⟨aA.mono h.1 fun b hb=>⟨(hS b hb).1,Nat.lt_of_lt_of_le (hS b hb).2 h.2.1.size⟩,h.2⟩
theorem aP.apart(h:aP w base t v l):aA w base t v l (fun b=>p8 base w b∧v.ownBlock≠some b):=by
 obtain⟨F,h1,h2⟩:=h;obtain⟨xs,h3,h4,h5⟩:=h1;exact⟨F,⟨xs,h3,h4,h5⟩,fun b hb=>⟨h2 b hb,fun e=>h5 b e hb⟩⟩
theorem tL(t ty:TypeId)(base:Nat)(e:TypeId)(z:Value)(bytes:Nat)(ht:P.underlying t=some (.slice e))(hinfo:(P.info? e).map (fun i=>(i.zero,i.size,i.bytes))=some (some z,aD.wd α,bytes))(hzs:z.cells.size=aD.wd α)(hsz:0<aD.wd α)(v:Value)(l:List α)(el:α)(cs:List Value)(ad:Addr)(c:Nat)(hown:aP W base e v l)(hr:RS W (fun b=>p8 base W b∧v.ownBlock≠some b) el cs)(hcells: ∀j u,cs[j]? =some u→W.cell? (ad.add j)=some u)(hbytes:(l.length+1)*bytes≤140737488355328)(h63:l.length+1≤maxLen)(hbW:base≤W.heap.size): ∃v' w',(Builtin.append_ #[t,t] ty #[v,.slice (some ad) 1 c]).run P W=.ok v' w'∧zu W base e v (l++[el]) v' w':=by
 obtain⟨v',w',h1,h2⟩:=fN t ty base e z bytes ht hinfo hzs hsz v l el cs ad c _ hown.apart (fun b hb=>⟨hb.1.2,hb.2⟩) hr hcells hbytes h63 hbW;exact⟨v',w',h1,h2.zT fun b hb=>hb.1⟩
end
def eL(v:aa)(A:Option Addr)(c:Nat):Value:=.agg #[.int .i64 v.kind,.int .i64 v.n,.int .i64 v.x,.string v.s,.slice A v.l.length c]
def xY(w:World)(v:aa)(e:Ending)(w':World):Prop:= ∃A c,e=.returned (eL v A c)∧SB w.heap.size w' v.l A c∧Below w.heap.size w w'
def iD(w:World)(v:aa)(u:Value)(e:Ending)(w':World):Prop:= ∃A c,e=.returned (.tuple #[eL v A c,u])∧SB w.heap.size w' v.l A c∧Below w.heap.size w w'
def x9{α:Type}[aD α](w:World)(l:List α)(e:Ending)(w':World):Prop:= ∃A c,e=.returned (.slice A l.length c)∧SB w.heap.size w' l A c∧Below w.heap.size w w'
end
end Go.Proofs.YtodpdjehjllhdaaGreatDoor
