/- Part of a proof: contracts and plain laws. -/
import Derived.Test.YtodpdjehjllhdaaGreatDoorW03
set_option linter.unusedVariables false
set_option linter.unusedSimpArgs false
set_option maxRecDepth 100000
set_option maxHeartbeats 20000000
namespace Go.Proofs.YtodpdjehjllhdaaGreatDoor
open Go.RowKit
theorem oD(l:List UInt8):(strOf l).data.toList=l:=by
 simp[strOf]
theorem lx(l:List UInt8):(strOf l).size=l.length:=by
 simp[strOf,ByteArray.size]
theorem rM{l:List UInt8}(h: ∀b∈l,b.toNat<128):cd (strOf l)=true:=by
 unfold cd;rw[oD,Lib.validD_ascii l.length l (by rw[List.take_length];exact h),List.drop_length];rfl
theorem uH{b:Nat}(h:b<16):(mQ b).toNat<128:=by
 unfold mQ;split;·rw[UInt8.toNat_ofNat_of_lt' (by show _<256;omega)];omega
 ·rw[UInt8.toNat_ofNat_of_lt' (by show _<256;omega)];omega
theorem gK: ∀l:List UInt8,(oo l).length=2*l.length|[]=>rfl|b::l=>by have:=gK l;unfold oo at this ⊢;rw[List.flatMap_cons,List.length_append,this];simp;omega
theorem yr(s:ByteArray):cd (mJ s)=true:=by
 refine rM fun b hb=> ?_;unfold oo at hb;obtain⟨c,hc,hb⟩:=List.mem_flatMap.1 hb;have:=c.toNat_lt;rcases List.mem_cons.1 hb with rfl|hb;·exact uH (by omega)
 ·rcases List.mem_cons.1 hb with rfl|hb;·exact uH (by omega)
  ·cases hb
theorem vX(s:ByteArray):(mJ s).size=2*s.size:=by
 unfold mJ;rw[lx,gK,Array.length_toList];rfl
theorem jR{n:Int}(h0:0≤n)(h1:n<10):eK n=strOf [UInt8.ofNat (48+n.toNat)]:=by
 unfold eK Lib.itoa;rw[if_neg (by omega),Lib.decDigits_one (by omega)]
theorem kv{u:aa}(h:bN u):bN (fj u):=by
 obtain⟨hx,hl,h⟩:=h;unfold fj;rcases h with⟨hk,h0,h1,hs⟩|⟨hk,h⟩
 ·rw[if_neg (by omega),jR h0 (by omega)];refine⟨rfl,rfl,.inr ⟨rfl,rfl,?_,rM fun b hb=> ?_⟩⟩;·unfold iI;rw[lx];simp
  ·rw[List.mem_singleton.1 hb,UInt8.toNat_ofNat_of_lt' (by show _<256;omega)];omega
 ·rw[if_pos hk];exact⟨hx,hl,.inr ⟨hk,h⟩⟩
theorem bN.rJ{u:aa}(h:bN u):valOkP u=true:=by
 obtain⟨hx,hl,h⟩:=h;obtain⟨k,n,x,s,l⟩:=u;simp only at hx hl h;subst hx hl;rw[bV];simp only[valsOkP,Bool.and_true];rcases h with⟨rfl,h0,h1,rfl⟩|⟨rfl,rfl,hs,ht⟩;·unfold af;simp;omega
 ·unfold af;simp[ht]
theorem bN.same{u:aa}(h:bN u){way:Int}(hw:bn way≠true)(p:List GStep):projP way u p=(u,[]):=by
 have hw4:way≠4:=fun e=>hw (by rw[e];rfl);have h7:=h.2.2;refine wS (by omega) (by omega) (by omega) (nX (by omega)) p

theorem tW{m e:Int}{r:Int×Int}(h:bz m e=some r):bh r.1 r.2=true:=by
 unfold bz at h;split at h;·injection h with h;subst h;rfl
 ·split at h;·rename_i h2;injection h with h;subst h;exact h2
  ·cases h
theorem oe{n x m e:Int}(h:eL n x=some (m,e)):bh m e=true:=by
 unfold eL at h;split at h;·exact tW (r:=(m,e)) h
 ·cases h
theorem mE{m e:Int}(h:bh m e=true):(m=0∧e=0)∨(m≠0∧ -65535≤m∧m≤65535∧m.tmod 2≠0∧ -16≤e∧e≤45∧(e≤30∨(-65535≤m*2^(e-30).toNat∧m*2^(e-30).toNat≤65535))):=by
 unfold bh at h;by_cases hm:m=0;·rw[if_pos hm] at h;exact .inl ⟨hm,by simpa using h⟩
 ·rw[if_neg hm] at h;simp only[Bool.and_eq_true,Bool.or_eq_true,decide_eq_true_eq] at h;exact .inr ⟨hm,h.1.1.1.1,h.1.1.1.2,h.1.1.2,h.1.2.1,h.1.2.2,h.2⟩
theorem yq{k:Nat}(h:k≤30): ∃q:Int,(2:Int)^k=q∧1≤q∧q≤1073741824:=by
 refine⟨_,rfl,?_,?_⟩;·have:=Int.pow_pos (n:=2) (m:=k) (by omega);omega
 ·have:=Nat.pow_le_pow_right (n:=2) (by omega) h;have e:((2^k:Nat):Int)=(2:Int)^k:=by simp
  rw[←e];have:(2:Nat)^30=1073741824:=by decide
  omega
theorem lL{m q B:Int}(h0: -65535≤m)(h1:m≤65535)(hq0:1≤q)(hq1:q≤B): -(65535*B)≤m*q∧m*q≤65535*B:=by
 have h2:m*q≤65535*q:=Int.mul_le_mul_of_nonneg_right h1 (by omega);have h3: -65535*q≤m*q:=Int.mul_le_mul_of_nonneg_right h0 (by omega);constructor;·rw[Int.neg_mul] at h3;omega
 ·omega
theorem vM{m e:Int}(h:bh m e=true):valOkP (b9 (aI m e).1 (aI m e).2)=true:=by
 unfold aI b9;rcases mE h with⟨rfl,rfl⟩|⟨hm,h0,h1,h2,h3,h4,h5⟩;·rfl
 ·by_cases he:0≤e
  ·rw[if_pos he];simp only[if_true];have hb: -1000000000000000≤m*2^e.toNat∧m*2^e.toNat≤1000000000000000:=by by_cases h30:e≤30;(·obtain⟨q,hq,hq0,hq1⟩:=yq (k:=e.toNat) (by omega);rw[hq];have:=lL h0 h1 hq0 hq1;omega);·rcases h5 with h5|h5;(·omega);·(have e1:e.toNat=(e-30).toNat+30:=by omega);rw[e1,Int.pow_add,←Int.mul_assoc];have:=lL (q:=2^30) (B:=1073741824) h5.1 h5.2 (by decide) (by decide);omega
   rw[bV];simp[af,valsOkP,hb.1,hb.2]
  ·rw[if_neg he];have hx:e≠0:=by omega
   simp only[if_neg hx];obtain⟨k,hk,hk1,hk2⟩: ∃k:Nat,(-e).toNat=k∧1≤k∧k≤16:=⟨_,rfl,by omega,by omega⟩;rw[hk];have hodd: ¬(2:Int) ∣ m:=fun hd=>h2 (Int.tmod_eq_zero_of_dvd hd);have h5b: ∃q:Int,(5:Int)^k=q∧1≤q∧q≤152587890625∧q%2=1:=by(have hk':k=1∨k=2∨k=3∨k=4∨k=5∨k=6∨k=7∨k=8∨k=9∨k=10∨k=11∨k=12∨k=13∨k=14∨k=15∨k=16:=by omega);rcases hk' with rfl|rfl|rfl|rfl|rfl|rfl|rfl|rfl|rfl|rfl|rfl|rfl|rfl|rfl|rfl|rfl<;>exact⟨_,rfl,by decide,by decide,by decide⟩
   obtain⟨q,hq,hq0,hq1,hq2⟩:=h5b;rw[hq];have hb:=lL h0 h1 hq0 hq1;have hd: ¬(10:Int) ∣ m*q:=by rintro⟨t,ht⟩;apply hodd;refine⟨m*((q+1)/2)-5*t,?_⟩;(have e1:q+1=2*((q+1)/2):=by omega);rw[Int.mul_sub,←Int.mul_assoc 2 m,Int.mul_comm 2 m,Int.mul_assoc m 2,←e1,Int.mul_add,ht];omega
   have hdig:eU (m*q)≤17:=(jy _).2 ⟨by omega,by omega⟩;have ht:(m*q).tmod 10≠0:=fun e0=>hd (Int.dvd_of_tmod_eq_zero e0);rw[bV];have hdec:aV (m*q) e=true:=by unfold aV;simp[hx,hdig,ht];omega
   simp[af,valsOkP,hdec];omega
mutual
def depG : aa → Nat
  | ⟨_, _, _, _, l⟩ => depL l
def depL : List aa → Nat
  | [] => 0
  | a :: l => max (depG a + 1) (depL l)
end
theorem ed(v:aa):depG v=depL v.l:=by
 cases v;rw[depG]
theorem lp{l:List aa}{d:Nat}:depL l≤d↔ ∀a∈l,depG a+1≤d:=by
 induction l with|nil=>simp[depL]|cons a l ih=>rw[depL,Nat.max_le,ih];simp
theorem dB{v a:aa}(h:a∈v.l):depG a+1≤depG v:=by
 have:=lp.1 (Nat.le_refl (depL v.l)) a h;rw[ed v];exact this

theorem pV(cs:List ah):potL (aj cs)=(cs.map fun c=>2+potG c.name+potG c.val).sum:=by
 induction cs with|nil=>rfl|cons c cs ih=>rw[a7,potL,potL,ih,List.map_cons,List.sum_cons];omega
theorem rU{α:Type}(f:α→Nat){a b:List α}(h:a.Perm b):(a.map f).sum=(b.map f).sum:=by
 induction h with|nil=>rfl|cons x _ ih=>simp only[List.map_cons,List.sum_cons,ih]|swap x y l=>simp only[List.map_cons,List.sum_cons];omega|trans _ _ ih1 ih2=>rw[ih1,ih2]
theorem p6(f:ah→Nat): ∀l,((au l).map f).sum≤(l.map f).sum|[]=>by simp[au]|c::l=>by have:=p6 f l;rw[au];split;(·rw[List.map_cons,List.sum_cons];omega);·rw[List.map_cons,List.sum_cons,List.map_cons,List.sum_cons];omega
theorem fD: ∀l,(au l).length≤l.length|[]=>by simp[au]|c::l=>by have:=fD l;rw[au];split;(·rw[List.length_cons];omega);·rw[List.length_cons,List.length_cons];omega
theorem jT: ∀(r:List (aa×List ag))(i:Nat),(aE r i).length=r.length/2|[],i=>by simp[aE]|[a],i=>by simp[aE]|a::b::l,i=>by rw[aE,List.length_cons,jT l (i+1)];simp only[List.length_cons];omega
theorem oF: ∀(r:List (aa×List ag))(i:Nat),potL (aj (aE r i))≤potL (r.map (·.1))|[],i=>by simp[aE,aj,potL]|[a],i=>by simp[aE,aj,potL]|a::b::l,i=>by have:=oF l (i+1);rw[aE,a7,potL,potL,List.map_cons,List.map_cons,potL,potL];simp only;omega
theorem lW{cs:List ah}{u:aa}:u∈aj cs↔ ∃c∈cs,u=c.name∨u=c.val:=by
 unfold aj;rw[List.mem_flatMap];simp
theorem rk: ∀(cs:List ah)(i:Nat)(h:i<(aj cs).length),i%2=0→ ∃c∈cs,(aj cs)[i]=c.name|[],i,h,_=>by simp[aj] at h|c::cs,0,h,_=>⟨c,by simp,by simp[a7]⟩|c::cs,1,h,he=>by omega|c::cs,i+2,h,he=>by obtain⟨d,hd,e⟩:=rk cs i (by rw[a7] at h;simpa using h) (by omega);exact⟨d,by simp[hd],by simp only[a7,List.getElem_cons_succ];exact e⟩

theorem tD{way:Int}{v:aa}(hok:valOkP v=true)(h9:v.kind≠9)(h10:v.kind≠10)(h11:v.kind≠11):valOkP (bZ way v).1=true∧(bZ way v).1.l=[]∧potG (bZ way v).1≤potG v∧(bZ way v).1.kind≠10:=by
 have ho:=(aQ hok).1;have hl:v.l=[]:=by unfold af at ho;(repeat' (split at ho));(all_goals first|(simp at ho;done)|(simp at ho;first|exact ho.2.2.2|exact ho.2.2|exact ho.2.2.2.2|exact ho.2.2.2.2.2|exact ho.2|skip));all_goals first|omega|(exact ho.2.2.2.1)|skip
 have near:v.kind=3∨v.kind=6→valOkP (aB v.n v.x).1=true∧(aB v.n v.x).1.l=[]∧potG (aB v.n v.x).1≤potG v∧(aB v.n v.x).1.kind≠10:=by intro hk;(have hp:24≤potG v:=by rw[aR,if_neg (by omega),if_pos (by omega)];omega);unfold aB;split;(·exact⟨rfl,rfl,by rw[aR];simp[iR,potL],by simp[iR]⟩);·rename_i m e hne;have hf:=oe hne;refine⟨?_,rfl,by rw[aR];simp[potL];omega,by simp⟩;rw[bV];simp[af,valsOkP,hf]
 unfold bZ;split;·rename_i h;exact near (.inl h.1)
 ·split;·rename_i h;exact near (.inr h.1)
  ·split
   ·rename_i h;have hf:bh v.n v.x=true:=by unfold af at ho;simp[h.1] at ho;exact ho.1
    have hp:24≤potG v:=by rw[aR,if_neg (by omega),if_pos (by omega)];omega
    refine⟨vM hf,?_,?_,?_⟩;·unfold b9;split<;>rfl
    ·rw[aR];unfold b9;split<;>simp[potL]<;>omega
    ·unfold b9;split<;>simp
   ·split;·exact⟨rfl,rfl,by rw[aR];simp[iR,potL],by simp[iR]⟩
    ·split
     ·rename_i h;refine⟨?_,rfl,?_,by simp[iI]⟩;·rw[bV];simp[iI,af,valsOkP,yr]
      ·rw[aR,aR v,if_pos h.1];simp[iI,potL,vX]
     ·exact⟨hok,hl,Nat.le_refl _,h10⟩
theorem sW{v:aa}(hok:valOkP v=true)(h9:v.kind≠9)(h10:v.kind≠10)(h11:v.kind≠11):v.l=[]:=by
 have ho:=(aQ hok).1;unfold af at ho;repeat' (split at ho)
 all_goals first|(simp at ho;done)|(simp at ho;first|exact ho.2.2.2|exact ho.2.2|exact ho.2.2.2.2|exact ho.2.2.2.2.2|exact ho.2|skip)
 all_goals first|omega|(exact ho.2.2.2.1)|skip
def nB(v u:aa):Prop:=valOkP u=true∧fU u∧potG u≤potG v∧depG u≤depG v
theorem tE{way k:Int}{a:aa}{i:Nat}{p:List GStep}(hok:valOkP a=true)(hn:fU a)(hm:k=10→i%2=0→bN a)(IH: ∀p,nB a (projP way a p).1):nB a (cU way k a i p).1∧(k=10→i%2=0→bN (cU way k a i p).1):=by
 unfold cU;by_cases hc:k=10∧i%2=0∧bn way=true
 ·rw[if_pos hc];have h0:=hm hc.1 hc.2.1;have h1:=kv h0;refine⟨⟨h1.rJ,h1.ze,?_,?_⟩,fun _ _=>h1⟩
  ·have h2:=h1.2.1;show potG (fj a)≤potG a;unfold fj at h2 h1 ⊢;by_cases h7:a.kind=7;·simp only[if_pos h7];omega
   ·rw[if_neg h7] at h2 ⊢;have h3:=h0.2.2;rcases h3 with h3|h3;·rw[aR a,if_neg (by omega),if_pos (by omega),aR];simp only[jR h3.2.1 (show a.n<10 by omega)];simp[iI,potL,lx];omega
    ·omega
  ·rw[ed,h1.2.1];simp[depL]
 ·rw[if_neg hc];refine⟨IH _,fun hk hi=> ?_⟩;have h0:=hm hk hi;rw[h0.same (fun e=>hc ⟨hk,hi,e⟩)];exact h0
theorem rD: ∀(l m:List aa),l.length=m.length→(∀i(h:i<l.length)(h':i<m.length),potG l[i]≤potG m[i])→potL l≤potL m|[],[],_,_=>Nat.le_refl _|[],_::_,e,_=>by simp at e|_::_,[],e,_=>by simp at e|a::l,b::m,e,h=>by have h0:=h 0 (by simp) (by simp);simp only[List.getElem_cons_zero] at h0;(have:=rD l m (by simpa using e) fun i h1 h2=>by have:=h (i+1) (by simpa using h1) (by simpa using h2);simpa using this);rw[potL,potL];omega
theorem dc(way:Int)(v:aa):valOkP v=true→fU v→ ∀p,nB v (projP way v p).1:=by
 refine aa.ind (p:=fun v=>valOkP v=true→fU v→ ∀p,nB v (projP way v p).1) (fun v IH hok hn p=> ?_) v;obtain⟨ho,hl⟩:=aQ hok;have IH': ∀i(hi:i<v.l.length) p,nB v.l[i] (projP way v.l[i] p).1:=fun i hi=>IH i hi (bB hl hi) (hn.sub.at (List.getElem_mem hi));have hE: ∀(k:Int) i(hi:i<v.l.length) p,(k=10→v.kind=10)→nB v.l[i] (cU way k v.l[i] i p).1∧(k=10→i%2=0→bN (cU way k v.l[i] i p).1):=fun k i hi p hk=>tE (bB hl hi) (hn.sub.at (List.getElem_mem hi)) (fun e e2=>(hn.own (hk e)).2 i hi e2) (IH' i hi);have hpl: ∀(k:Int) p,(k=10→v.kind=10)→potL ((projL way k v.l 0 p).map (·.1))≤potL v.l:=fun k p hk=>by refine rD _ _ (by rw[List.length_map,bJ]) fun i h1 h2=> ?_;rw[List.getElem_map,dq way k p v.l 0 i h2,Nat.zero_add];exact(hE k i h2 p hk).1.2.2.1
 by_cases h9:v.kind=9
 ·rw[eh h9];have hmem: ∀a∈(projL way 9 v.l 0 p).map (·.1),∃i,∃h:i<v.l.length,nB v.l[i] a:=by intro a ha;obtain⟨i,hi,e⟩:=List.getElem_of_mem ha;(have hi':i<v.l.length:=by rwa[List.length_map,bJ] at hi);rw[List.getElem_map,dq way 9 p v.l 0 i hi',Nat.zero_add] at e;exact⟨i,hi',e▸(hE 9 i hi' p (by omega)).1⟩
  refine⟨?_,fU.of (by simp) (gE.all fun a ha=> ?_),?_,?_⟩;·rw[bV];simp only[Bool.and_eq_true];refine⟨by simp[af],?_⟩;rw[dG,List.all_eq_true];intro a ha;obtain⟨i,hi,h⟩:=hmem a ha;exact h.1
  ·obtain⟨i,hi,h⟩:=hmem a ha;exact h.2.1
  ·rw[aR,aR v];have:=hpl 9 p (by omega);simp only[h9];simp;omega
  ·rw[ed];simp only;rw[lp];intro a ha;obtain⟨i,hi,h⟩:=hmem a ha;have h1:=dB (List.getElem_mem hi);have:=h.2.2.2;omega
 ·by_cases h10:v.kind=10
  ·rw[dM h10];unfold eF;show nB v ⟨10,0,0,.empty,aj (aZ way (au (aE (projL way 10 v.l 0 p) 0)))⟩;have hpair: ∀c∈aZ way (au (aE (projL way 10 v.l 0 p) 0)),∃i,∃h:i<v.l.length,∃j,∃h':j<v.l.length,nB v.l[i] c.name∧bN c.name∧nB v.l[j] c.val:=by intro c hc;obtain⟨j,hj,rfl⟩:=nU _ _ _ (vO hc);(have hj':2*j+1<v.l.length:=by rwa[bJ] at hj);have e0:=dq way 10 p v.l 0 (2*j) (by omega);have e1:=dq way 10 p v.l 0 (2*j+1) hj';rw[Nat.zero_add] at e0 e1;have k0:=hE 10 (2*j) (by omega) p (fun _=>h10);have k1:=hE 10 (2*j+1) hj' p (fun _=>h10);exact⟨2*j,by omega,2*j+1,hj',by simp only;rw[e0];exact k0.1,by simp only;rw[e0];exact k0.2 rfl (by omega),by simp only;rw[e1];exact k1.1⟩
   refine⟨?_,fU.of (fun _=>⟨?_,fun i hi he=> ?_⟩) (gE.all fun a ha=> ?_),?_,?_⟩
   ·rw[bV];simp only[Bool.and_eq_true];refine⟨by simp[af,cJ],?_⟩;rw[dG,List.all_eq_true];intro a ha;obtain⟨c,hc,e⟩:=lW.1 ha;obtain⟨i,hi,j,hj,h1,h2,h3⟩:=hpair c hc;rcases e with rfl|rfl;·exact h1.1
    ·exact h3.1
   ·have h1:=(hn.own h10).1;have h2:=fD (aE (projL way 10 v.l 0 p) 0);have h3:=(dJ way (au (aE (projL way 10 v.l 0 p) 0))).length_eq;rw[jT,bJ] at h2;show(aj _).length≤6;rw[cJ];omega
   ·obtain⟨c,hc,e⟩:=rk _ i hi he;obtain⟨_,_,_,_,_,h2,_⟩:=hpair c hc;show bN ((aj _)[i]);rw[e];exact h2
   ·obtain⟨c,hc,e⟩:=lW.1 ha;obtain⟨i,hi,j,hj,h1,h2,h3⟩:=hpair c hc;rcases e with rfl|rfl;·exact h1.2.1
    ·exact h3.2.1
   ·rw[aR,aR v];simp only[h10];have h1:=hpl 10 p (fun _=>h10);have h2:=oF (projL way 10 v.l 0 p) 0;have h3:=p6 (fun c=>2+potG c.name+potG c.val) (aE (projL way 10 v.l 0 p) 0);have h4:=rU (fun c=>2+potG c.name+potG c.val) (dJ way (au (aE (projL way 10 v.l 0 p) 0)));rw[pV] at h2;simp only[show((10:Int)=8)=False by simp,show((10:Int)=3∨(10:Int)=4∨(10:Int)=6)=False by simp,if_false];rw[pV,h4];have:(ByteArray.empty).size=0:=rfl;omega
   ·rw[ed];simp only;rw[lp];intro a ha;obtain⟨c,hc,e⟩:=lW.1 ha;obtain⟨i,hi,j,hj,h1,h2,h3⟩:=hpair c hc;have d1:=dB (List.getElem_mem hi);have d2:=dB (List.getElem_mem hj);rcases e with rfl|rfl;·have:=h1.2.2.2;omega
    ·have:=h3.2.2.2;omega
  ·by_cases h11:v.kind=11
   ·obtain⟨a,hv,hv0,hv1⟩:=gJ ho h11;have ha:v.l=[a]:=by rw[hv]
    have hlt:0<v.l.length:=by rw[ha];simp
    have ha0:v.l[0]=a:=by simp[ha]
    have hI:=IH' 0 hlt (p++[⟨0,false⟩]);rw[ha0] at hI;rw[gD h11 a ha];generalize projP way a (p++[⟨0,false⟩])=r at hI ⊢;have hda:=dB (v:=v) (a:=a) (by rw[ha];simp);split
    ·refine⟨?_,fU.of (by simp) (gE.all fun b hb=> ?_),?_,?_⟩;·rw[bV];simp[af,valsOkP,hI.1,hv0,hv1]
     ·rw[List.mem_singleton.1 hb];exact hI.2.1
     ·rw[aR,aR v,ha];have:=hI.2.2.1;have:(ByteArray.empty).size=0:=rfl;simp only[h11,potL];simp;omega
     ·rw[ed];simp only;rw[lp];intro b hb;rw[List.mem_singleton.1 hb];have:=hI.2.2.2;omega
    ·refine⟨hI.1,hI.2.1,?_,?_⟩;·have:=hI.2.2.1;rw[aR v,ha,potL,potL];simp only;omega
     ·have:=hI.2.2.2;simp only;omega
   ·rw[ei h9 h10 h11];obtain⟨k1,k2,k3,k4⟩:=tD (way:=way) hok h9 h10 h11;refine⟨k1,fU.of (fun e=>absurd e k4) (gE.all fun a ha=> ?_),k3,?_⟩;·simp only at ha;rw[k2] at ha;cases ha
    ·rw[ed];simp only;rw[k2];simp[depL]
theorem bm(v:aa):valOkP v=true→bulkVal v≤potG v:=by
 refine aa.ind (p:=fun v=>valOkP v=true→bulkVal v≤potG v) (fun v IH hok=> ?_) v;obtain⟨ho,hl⟩:=aQ hok;rw[av,aR];have h1:v.s.size≤if v.kind=8 then 2*v.s.size else if v.kind=3∨v.kind=4∨v.kind=6 then 24 else v.s.size:=by split;(·omega);·split;(·rename_i h;(have:v.s=.empty:=by unfold af at ho;rcases h with h|h|h<;>simp[h] at ho;(·exact ho.2.2.1);(·exact ho.2.1);·exact ho.2.2.1);rw[this];show 0≤24;omega);·omega
 have h2: ∀l:List aa,(∀i(h:i<l.length),bulkVal l[i]≤potG l[i])→bulkVals l≤potL l:=by intro l;induction l with|nil=>intro _;simp[bulkVals,potL]|cons a l ih=>intro h;have h0:=h 0 (by simp);simp only[List.getElem_cons_zero] at h0;(have:=ih fun i hi=>by have:=h (i+1) (by simpa using hi);simpa using this);rw[bulkVals,potL];omega
 have:=h2 v.l fun i hi=>IH i hi (bB hl hi);omega
def iQ(n d:Nat)(l:List ag):Prop:=l.length≤n∧ ∀x∈l,x.p.length≤d∧1≤x.kind∧x.kind≤9
theorem iQ.nil(n d:Nat):iQ n d []:=⟨by simp,by simp⟩
theorem iQ.one{n d:Nat}{x:ag}(hn:1≤n)(h:x.p.length≤d∧1≤x.kind∧x.kind≤9):iQ n d [x]:=⟨by simpa using hn,by simpa using h⟩
theorem iQ.app{n m d:Nat}{a b:List ag}(ha:iQ n d a)(hb:iQ m d b):iQ (n+m) d (a++b):=⟨by rw[List.length_append];have:=ha.1;have:=hb.1;omega,fun x hx=>by rcases List.mem_append.1 hx with h|h;(·exact ha.2 x h);·exact hb.2 x h⟩
theorem iQ.mono{n m d e:Nat}{a:List ag}(h:iQ n d a)(hn:n≤m)(hd:d≤e):iQ m e a:=⟨Nat.le_trans h.1 hn,fun x hx=>⟨Nat.le_trans (h.2 x hx).1 hd,(h.2 x hx).2⟩⟩
theorem j5(way:Int)(v:aa):0≤(bZ way v).2∧(bZ way v).2≤5:=by
 have near:0≤(aB v.n v.x).2∧(aB v.n v.x).2≤5:=by unfold aB;split;(·exact⟨by decide,by decide⟩);·simp only;split<;>exact⟨by decide,by decide⟩
 unfold bZ;split;·exact near
 ·split;·exact near
  ·split;·exact⟨by simp,by simp⟩
   ·split;·exact⟨by simp,by simp⟩
    ·split<;>exact⟨by simp,by simp⟩
theorem qW(way:Int){d:Nat}{p:List GStep}(hp:p.length+1≤d): ∀(l:List aa)(i n:Nat),(∀j(h:j<l.length),iQ (1+bulkVal l[j]) d (cU way 10 l[j] (i+j) p).2)→iQ (bulkVals l) d (aY p (aE (projL way 10 l i p) n))|[],i,n,_=>by rw[projL,aE];exact iQ.nil _ _;simp|[a],i,n,_=>by rw[cD,projL,aE];exact iQ.nil _ _;simp|a::b::l,i,n,h=>by have h0:=h 0 (by simp);have h1:=h 1 (by simp);simp only[List.getElem_cons_zero,Nat.add_zero,List.getElem_cons_succ] at h0 h1;(have hr:=qW way hp l (i+1+1) (n+1) fun j hj=>by have:=h (j+1+1) (by simpa using hj);simp only[List.getElem_cons_succ] at this;rwa[show i+(j+1+1)=i+1+1+j by omega] at this);rw[cD,cD,aE,aY,bulkVals,bulkVals];refine(iQ.app (n:=(1+bulkVal a)+(1+bulkVal b)) ?_ hr).mono (by omega) (Nat.le_refl _);split;(·exact iQ.one (by omega) ⟨by simp;omega,by simp,by simp⟩);·exact h0.app h1
theorem nF(way k:Int){d:Nat}{p:List GStep}: ∀(l:List aa)(i:Nat),(∀j(h:j<l.length),iQ (1+bulkVal l[j]) d (cU way k l[j] (i+j) p).2)→iQ (bulkVals l) d ((projL way k l i p).flatMap (·.2))|[],i,_=>by rw[projL];exact iQ.nil _ _|a::l,i,h=>by have h0:=h 0 (by simp);simp only[List.getElem_cons_zero,Nat.add_zero] at h0;(have h1:=nF way k l (i+1) fun j hj=>by have:=h (j+1) (by simpa using hj);simp only[List.getElem_cons_succ] at this;rwa[show i+(j+1)=i+1+j by omega] at this);rw[cD,List.flatMap_cons,bulkVals];exact h0.app h1
theorem dI(way:Int)(v:aa): ∀p,iQ (1+bulkVal v) (p.length+depG v) (projP way v p).2:=by
 refine aa.ind (p:=fun v=> ∀p,iQ (1+bulkVal v) (p.length+depG v) (projP way v p).2) (fun v IH p=> ?_) v;have hE: ∀k i(hi:i<v.l.length) p,iQ (1+bulkVal v.l[i]) (p.length+depG v) (cU way k v.l[i] i p).2:=by intro k i hi p;have hd:=dB (List.getElem_mem hi);unfold cU;split;(·simp only;split;(·exact iQ.nil _ _);·exact iQ.one (by omega) ⟨by simp;omega,by simp,by simp⟩);·exact(IH i hi _).mono (Nat.le_refl _) (by simp;omega)
 rw[av];have hE0: ∀k j(hj:j<v.l.length),iQ (1+bulkVal v.l[j]) (p.length+depG v) (cU way k v.l[j] (0+j) p).2:=fun k j hj=>by rw[Nat.zero_add];exact hE k j hj p
 by_cases h9:v.kind=9;·rw[eh h9];exact(nF way 9 v.l 0 (hE0 9)).mono (by omega) (Nat.le_refl _)
 ·by_cases h10:v.kind=10
  ·rw[dM h10];unfold eF;simp only;have ho:iQ 1 (p.length+depG v) (if(aZ way (au (aE (projL way 10 v.l 0 p) 0))).map ah.at_=(au (aE (projL way 10 v.l 0 p) 0)).map ah.at_ then[] else[⟨9,p⟩]):=by split;(·exact iQ.nil _ _);·exact iQ.one (by omega) ⟨by simp,by simp,by simp⟩
   by_cases hl:v.l=[]
   ·refine((iQ.app (n:=0) ?_ ho)).mono (by omega) (Nat.le_refl _);rw[hl,projL,aE];·exact iQ.nil _ _
    ·simp
   ·have hd:1≤depG v:=by obtain⟨a,ha⟩:=List.exists_mem_of_ne_nil _ hl;have:=dB ha;omega
    exact((qW way (by omega) v.l 0 0 (hE0 10)).app ho).mono (by omega) (Nat.le_refl _)
  ·by_cases h11:v.kind=11
   ·obtain⟨k,n,x,s,l⟩:=v;simp only at h11;subst h11;rw[projP];simp only[show((11:Int)=10)=False by simp,show((11:Int)=9)=False by simp,if_false,if_true];have h:=nF way 11 l 0 (hE0 11);split;·exact h.mono (by omega) (Nat.le_refl _)
    ·exact(h.app (iQ.one (n:=1) (x:=⟨6,p⟩) (by omega) ⟨by simp,by simp,by simp⟩)).mono (by omega) (Nat.le_refl _)
   ·rw[ei h9 h10 h11];simp only;split;·exact iQ.nil _ _
    ·have:=j5 way v;exact iQ.one (by omega) ⟨by simp,by simp only;omega,by simp only;omega⟩

def cf(p:List GStep):List ah→List ag|[]=>[]|c::l=>(if cG c l then[⟨8,p++[⟨c.at_,true⟩]⟩] else c.nl)++cf p l
theorem iL(p:List GStep): ∀cs,(aY p cs).Perm (cf p cs++(au cs).flatMap (·.vl))|[]=>by simp[aY,cf,au]|c::cs=>by have h:=iL p cs;rw[aY,cf,au];split;(·rw[List.append_assoc];exact h.append_left _);·rw[List.flatMap_cons,List.append_assoc,List.append_assoc];refine List.Perm.append_left _ ?_;refine(h.append_left _).trans ?_;rw[←List.append_assoc,←List.append_assoc];exact List.Perm.append_right _ List.perm_append_comm
theorem kS{α β:Type}{f:α→List β}{a b:List α}(h:a.Perm b):(a.flatMap f).Perm (b.flatMap f):=by
 induction h with|nil=>exact .refl _|cons x _ ih=>rw[List.flatMap_cons,List.flatMap_cons];exact ih.append_left _|swap x y l=>rw[List.flatMap_cons,List.flatMap_cons,List.flatMap_cons,List.flatMap_cons,←List.append_assoc,←List.append_assoc];exact List.Perm.append_right _ List.perm_append_comm|trans _ _ ih1 ih2=>exact ih1.trans ih2
theorem la(way:Int)(cs:List ah)(p:List GStep):(eF way cs p).2.Perm (cf p cs++(aZ way (au cs)).flatMap (·.vl)++if(aZ way (au cs)).map ah.at_=(au cs).map ah.at_ then[] else[⟨9,p⟩]):=by
 unfold eF;refine List.Perm.append_right _ ?_;exact(iL p cs).trans ((kS (dJ way (au cs)).symm).append_left _)
section
section
variable {α : Type} [aD α]
def az(w:World)(base:Nat)(t:TypeId)(v:Value)(l:List α)(S:Nat→Prop):Prop:= ∃F,c7 w base t v l F∧ ∀b,b∈F→S b
variable {w w' : World} {base : Nat} {t : TypeId} {v : Value} {l : List α} {S : Nat → Prop}
theorem az.form(h:az w base t v l S): ∃A c,v=.slice A l.length c:=h.choose_spec.1.form
theorem az.an(h:az w base t v l S): ∀g,v.ownBlock=some g→base≤g∧g<w.heap.size:=h.choose_spec.1.an
theorem az.sG(w:World)(t:TypeId)(base:Nat)(hb:base≤w.heap.size)(S:Nat→Prop):az (α:=α) (w.alloc (.cells #[] t)) base t (.slice (some ⟨w.heap.size,0,none⟩) 0 0) [] S:=⟨[],⟨[],World.ownsRow_lit w #[] 0 hb (by simp) (by simp),⟨rfl,rfl⟩,by simp⟩,by simp⟩
theorem az.al(h:az w base t v l S)(hb:Below w.heap.size w w')(hS: ∀b,S b→b<w.heap.size):az w' base t v l S:=let⟨F,h1,h2⟩:=h;⟨F,h1.below (fun b hm=>hS b (h2 b hm)) hb,h2⟩
theorem az.ss{A:Option Addr}{n c:Nat}(h:az w base t (.slice A n c) l S)(w':World)(S':Nat→Prop)(hk: ∀b,((Value.slice A n c).ownBlock=some b∨S b)→w'.heap[b]? =w.heap[b]?)(hS: ∀b,((Value.slice A n c).ownBlock=some b∨S b)→S' b):n=l.length∧SS w' S' l A c:=by
 obtain⟨F,h1,h2⟩:=h;obtain⟨hn,F',h3,h4⟩:=h1.zG;have hF: ∀b,b∈F'→(Value.slice A n c).ownBlock=some b∨S b:=by rcases h4 with rfl|⟨g,rfl,rfl,h5,h6,h7⟩;(·simp);·intro b hb;rcases List.mem_cons.1 hb with rfl|hb;(·exact .inl rfl);·exact .inr (h2 b hb)
 exact⟨hn,F',h3.al fun b hb=>hk b (hF b hb),fun b hb=>hS b (hF b hb)⟩
theorem az.mono{S':Nat→Prop}(h:az w base t v l S)(hS: ∀b,S b→S' b):az w base t v l S':=let⟨F,h1,h2⟩:=h;⟨F,h1,fun b hb=>hS b (h2 b hb)⟩
variable {P : Program} {W : World}
def iK(W:World)(base:Nat)(e:TypeId)(v:Value)(l:List α)(S:Nat→Prop)(v':Value)(w':World):Prop:=az w' base e v' l S∧Below base W w'∧(v'.ownBlock=v.ownBlock∨v'.ownBlock=some W.heap.size)∧W.grownBy w' v.ownBlock
theorem j6(t ty:TypeId)(base:Nat)(e:TypeId)(z:Value)(bytes:Nat)(ht:P.underlying t=some (.slice e))(hinfo:(P.info? e).map (fun i=>(i.zero,i.size,i.bytes))=some (some z,aD.wd α,bytes))(hzs:z.cells.size=aD.wd α)(hsz:0<aD.wd α)(v:Value)(l:List α)(el:α)(cs:List Value)(ad:Addr)(c:Nat)(S:Nat→Prop)(hown:az W base e v l S)(hS: ∀b,S b→b<W.heap.size∧v.ownBlock≠some b)(hr:RS W S el cs)(hcells: ∀j u,cs[j]? =some u→W.cell? (ad.add j)=some u)(hbytes:(l.length+1)*bytes≤140737488355328)(h63:l.length+1≤maxLen)(hbW:base≤W.heap.size): ∃v' w',(Builtin.append_ #[t,t] ty #[v,.slice (some ad) 1 c]).run P W=.ok v' w'∧iK W base e v (l++[el]) S v' w':=by
 obtain⟨F',h1',hr2⟩:=hr;have hel:aL W [el] F' cs:=aL.single h1';obtain⟨i,hi,hz,hsize,hby⟩:=info_parts hinfo;obtain⟨F,hC,hlt⟩:=hown;have hgl:=hC.an;obtain⟨xs,h1,h2,h3⟩:=hC;have hF: ∀g,v.ownBlock=some g→g∉F':=fun g hg hm=>(hS g (hr2 g hm)).2 hg;have hltS: ∀b,b∈F++F'→S b:=fun b hm=>by rcases List.mem_append.1 hm with hm|hm;(·exact hlt b hm);·exact hr2 b hm
 obtain⟨v',w',hrun,h4,h5,_,h6⟩:=run_append_own_at (P:=P) W base t ty e i z (aD.wd α) bytes ht hi hz hsize hby hzs hsz v l.length xs h1 ad 1 c cs hel.len hcells hel.one h63 hbytes hbW;exact⟨v',w',hrun,⟨F++F',c7.grown h2 h3 hel hF (fun b hb=>(hS b (hltS b hb)).1) h4 h5 h6,hltS⟩,bM h5 hbW fun k hk=>(hgl k hk).1,h6,h5⟩
theorem pH(t ty:TypeId)(base:Nat)(e:TypeId)(z:Value)(bytes:Nat)(ht:P.underlying t=some (.slice e))(hinfo:(P.info? e).map (fun i=>(i.zero,i.size,i.bytes))=some (some z,aD.wd α,bytes))(hzs:z.cells.size=aD.wd α)(hsz:0<aD.wd α)(v:Value)(l ys:List α)(A:Option Addr)(c:Nat)(S S0:Nat→Prop)(hown:az W base e v l S)(hS: ∀b,S b→b<W.heap.size∧v.ownBlock≠some b)(hr:SS W S0 ys A c)(hS0: ∀F xs,aL W ys F xs→(∀b,b∈F→S0 b)→ ∀b,b∈F→S b)(hbytes:(l.length+ys.length)*bytes≤140737488355328)(h63:l.length+ys.length≤maxLen)(hbW:base≤W.heap.size): ∃v' w',(Builtin.append_ #[t,t] ty #[v,.slice A ys.length c]).run P W=.ok v' w'∧iK W base e v (l++ys) S v' w':=by
 have gen: ∀(ad:Addr)(F':List Nat)(news:List Value),aL W ys F' news→(∀b,b∈F'→S b)→(∀j u,news[j]? =some u→W.cell? (ad.add j)=some u)→ ∃v' w',(Builtin.append_ #[t,t] ty #[v,.slice (some ad) ys.length c]).run P W=.ok v' w'∧iK W base e v (l++ys) S v' w':=by intro ad F' news hel hr2 hcells;obtain⟨i,hi,hz,hsize,hby⟩:=info_parts hinfo;obtain⟨F,hC,hlt⟩:=hown;have hgl:=hC.an;obtain⟨xs,h1,h2,h3⟩:=hC;have hF: ∀g,v.ownBlock=some g→g∉F':=fun g hg hm=>(hS g (hr2 g hm)).2 hg;(have hltS: ∀b,b∈F++F'→S b:=fun b hm=>by rcases List.mem_append.1 hm with hm|hm;(·exact hlt b hm);·exact hr2 b hm);obtain⟨v',w',hrun,h4,h5,_,h6⟩:=run_append_own_at (P:=P) W base t ty e i z (aD.wd α) bytes ht hi hz hsize hby hzs hsz v l.length xs h1 ad ys.length c news hel.len hcells hel.one h63 hbytes hbW;exact⟨v',w',hrun,⟨F++F',c7.grown h2 h3 hel hF (fun b hb=>(hS b (hltS b hb)).1) h4 h5 h6,hltS⟩,bM h5 hbW fun k hk=>(hgl k hk).1,h6,h5⟩
 obtain⟨F0,⟨hl1,hl2,hl3⟩,hr2⟩:=hr;rcases hl3 with⟨rfl,rfl,hn⟩|⟨b,off,F1,news,rfl,rfl,hel,hc⟩;·cases A with|none=>rw[hn rfl];obtain⟨F,hC,hFr⟩:=hown;exact⟨v,W,fA base t ty e z bytes ht hinfo v l F hC,by rw[List.append_nil];exact⟨F,hC,hFr⟩,Below.refl _ _,.inl rfl,fV _ _⟩|some ad=>exact gen ad [] [] ⟨rfl,rfl⟩ (by simp) (fun j u hj=>by simp at hj)
 ·refine gen ⟨b,off,none⟩ F1 news hel (hS0 F1 news hel fun b hb=>hr2 b (List.mem_cons_of_mem _ hb)) (fun j u hj=> ?_);have e1:(⟨b,off,none⟩:Addr).add j=⟨b,off+j,none⟩:=by unfold Addr.add;split;(·rename_i h;subst h;rfl);·rfl
  rw[e1];exact hc j u hj
end
end
section
section
variable {α : Type} [aD α]
def nw(base:Nat)(w:World)(b:Nat):Prop:=base≤b∧b<w.heap.size
def SB(base:Nat)(w:World)(l:List α)(A:Option Addr)(c:Nat):Prop:=SS w (nw base w) l A c
def RB(base:Nat)(w:World)(a:α)(cs:List Value):Prop:=RS w (nw base w) a cs
def aH(w:World)(base:Nat)(t:TypeId)(v:Value)(l:List α):Prop:=az w base t v l (nw base w)
variable {w w' : World} {base base' : Nat} {t : TypeId} {v : Value} {l : List α} {A : Option Addr} {c : Nat} {a : α} {cs : List Value}
theorem SB.sa(h:SB base w l A c):SA w l A c:=let⟨F,h1,h2⟩:=h;⟨F,h1,fun b hb=>(h2 b hb).2⟩
theorem SB.mono(h:SB base w l A c)(hb:base'≤base):SB base' w l A c:=let⟨F,h1,h2⟩:=h;⟨F,h1,fun b hm=>⟨Nat.le_trans hb (h2 b hm).1,(h2 b hm).2⟩⟩
theorem RB.mono(h:RB base w a cs)(hb:base'≤base):RB base' w a cs:=let⟨F,h1,h2⟩:=h;⟨F,h1,fun b hm=>⟨Nat.le_trans hb (h2 b hm).1,(h2 b hm).2⟩⟩
theorem SB.below(h:SB base w l A c)(hb:Below w.heap.size w w'):SB base w' l A c:=SS.al h (fun b h=>hb.block b h.2) (fun b h=>⟨h.1,Nat.lt_of_lt_of_le h.2 hb.size⟩)
theorem RB.below(h:RB base w a cs)(hb:Below w.heap.size w w'):RB base w' a cs:=RS.al h (fun b h=>hb.block b h.2) (fun b h=>⟨h.1,Nat.lt_of_lt_of_le h.2 hb.size⟩)
theorem SF.sb(h:SF base w l A c):SB base w l A c:=let⟨F,h1,h2⟩:=h;⟨F,h1,fun b hb=>⟨(h2.2 b hb).1,(h2.2 b hb).2.lt⟩⟩
theorem SB.nil(base:Nat)(w:World):SB (α:=α) base w [] none 0:=⟨[],⟨by simp,by simp,.inl ⟨rfl,rfl,fun _=>rfl⟩⟩,by simp⟩
theorem SB.set(h:SB base w l A c){g:Nat}(hg:g<base)(p:Addr)(hp:p.block=g)(u:Value):SB base (w.setCell p u) l A c:=by
 refine SS.al h (fun b hb=>Below.heap_setCell w p u b (by have:=hb.1;omega)) (fun b hb=>⟨hb.1,by simpa using hb.2⟩)
theorem aH.form(h:aH w base t v l): ∃A c,v=.slice A l.length c:=az.form h
theorem aH.an(h:aH w base t v l): ∀g,v.ownBlock=some g→base≤g∧g<w.heap.size:=az.an h
theorem aH.below(h:aH w base t v l)(hb:Below w.heap.size w w'):aH w' base t v l:=az.mono (az.al h hb fun b hb=>hb.2) fun b h=>⟨h.1,Nat.lt_of_lt_of_le h.2 hb.size⟩
theorem aH.sG(w:World)(t:TypeId)(base:Nat)(hb:base≤w.heap.size):aH (α:=α) (w.alloc (.cells #[] t)) base t (.slice (some ⟨w.heap.size,0,none⟩) 0 0) []:=az.sG w t base hb _
theorem ay.cO(h:ay w base t v l):aH w base t v l:=let⟨F,h1,h2⟩:=h;⟨F,h1,fun b hb=>⟨(h2.2 b hb).1,(h2.2 b hb).2.lt⟩⟩
theorem aH.nz(w:World)(base:Nat)(t:TypeId):aH (α:=α) w base t (.slice none 0 0) []:=(ay.nz w base t).cO
theorem aH.sb{A:Option Addr}{n c:Nat}(h:aH w base t (.slice A n c) l):n=l.length∧SB base w l A c:=by
 obtain⟨h1,h2⟩:=az.ss h w (nw base w) (fun _ _=>rfl) (fun b hb=>by rcases hb with hb|hb;(·exact aH.an h b hb);·exact hb);exact⟨h1,h2⟩
theorem aH.set(h:aH w base t v l){p:Addr}(hp:p.block<base)(u:Value):aH (w.setCell p u) base t v l:=by
 obtain⟨F,h1,h2⟩:=h;have hlt:=h1.an;obtain⟨xs,h3,h4,h5⟩:=h1;refine⟨F,⟨xs,?_,h4.al fun b hb=>Below.heap_setCell w p u b (fun e=>by have:=(h2 b hb).1;omega),h5⟩,fun b hb=>⟨(h2 b hb).1,by simpa[World.setCell] using(h2 b hb).2⟩⟩;obtain⟨h6,h7⟩:=h3;refine⟨h6,?_⟩;rcases h7 with h7|⟨g,cap,cur,rfl,hb,hh,h8,h9,h10,h11⟩;·exact .inl h7
 ·exact .inr ⟨g,cap,cur,rfl,hb,(Below.heap_setCell w p u g (fun e=>by omega)).trans hh,h8,h9,h10,h11⟩
variable {P : Program} {W : World}
def zT(W:World)(base:Nat)(e:TypeId)(v:Value)(l:List α)(v':Value)(w':World):Prop:=aH w' base e v' l∧Below base W w'∧(v'.ownBlock=v.ownBlock∨v'.ownBlock=some W.heap.size)∧W.grownBy w' v.ownBlock
theorem iK.AD{S:Nat→Prop}{v':Value}(h:iK W base t v l S v' w')(hS: ∀b,S b→nw base W b):zT W base t v l v' w':=⟨az.mono h.1 fun b hb=>⟨(hS b hb).1,Nat.lt_of_lt_of_le (hS b hb).2 h.2.1.size⟩,h.2⟩
theorem aH.apart(h:aH w base t v l):az w base t v l (fun b=>nw base w b∧v.ownBlock≠some b):=by
 obtain⟨F,h1,h2⟩:=h;obtain⟨xs,h3,h4,h5⟩:=h1;exact⟨F,⟨xs,h3,h4,h5⟩,fun b hb=>⟨h2 b hb,fun e=>h5 b e hb⟩⟩
theorem nW(t ty:TypeId)(base:Nat)(e:TypeId)(z:Value)(bytes:Nat)(ht:P.underlying t=some (.slice e))(hinfo:(P.info? e).map (fun i=>(i.zero,i.size,i.bytes))=some (some z,aD.wd α,bytes))(hzs:z.cells.size=aD.wd α)(hsz:0<aD.wd α)(v:Value)(l:List α)(el:α)(cs:List Value)(ad:Addr)(c:Nat)(hown:aH W base e v l)(hr:RS W (fun b=>nw base W b∧v.ownBlock≠some b) el cs)(hcells: ∀j u,cs[j]? =some u→W.cell? (ad.add j)=some u)(hbytes:(l.length+1)*bytes≤140737488355328)(h63:l.length+1≤maxLen)(hbW:base≤W.heap.size): ∃v' w',(Builtin.append_ #[t,t] ty #[v,.slice (some ad) 1 c]).run P W=.ok v' w'∧zT W base e v (l++[el]) v' w':=by
 obtain⟨v',w',h1,h2⟩:=j6 t ty base e z bytes ht hinfo hzs hsz v l el cs ad c _ hown.apart (fun b hb=>⟨hb.1.2,hb.2⟩) hr hcells hbytes h63 hbW;exact⟨v',w',h1,h2.AD fun b hb=>hb.1⟩
end
def eT(v:aa)(A:Option Addr)(c:Nat):Value:=.agg #[.int .i64 v.kind,.int .i64 v.n,.int .i64 v.x,.string v.s,.slice A v.l.length c]
def yo(w:World)(v:aa)(e:Ending)(w':World):Prop:= ∃A c,e=.returned (eT v A c)∧SB w.heap.size w' v.l A c∧Below w.heap.size w w'
def il(w:World)(v:aa)(u:Value)(e:Ending)(w':World):Prop:= ∃A c,e=.returned (.tuple #[eT v A c,u])∧SB w.heap.size w' v.l A c∧Below w.heap.size w w'
def AA{α:Type}[aD α](w:World)(l:List α)(e:Ending)(w':World):Prop:= ∃A c,e=.returned (.slice A l.length c)∧SB w.heap.size w' l A c∧Below w.heap.size w w'
end
end Go.Proofs.YtodpdjehjllhdaaGreatDoor
