/- Part of a proof: contracts and plain laws. -/
import Derived.Test.YtodpdjehjllhdaaGreatDoorZ04
set_option linter.unusedVariables false
set_option maxRecDepth 100000
set_option maxHeartbeats 20000000
namespace Go.Proofs.YtodpdjehjllhdaaGreatDoor
open Go.RowKit
theorem mD(l:List UInt8):(strOf l).data.toList=l:=by
 simp[strOf]
theorem kg(l:List UInt8):(strOf l).size=l.length:=by
 simp[strOf,ByteArray.size]
theorem qV{l:List UInt8}(h: ∀b∈l,b.toNat<128):bW (strOf l)=true:=by
 unfold bW;rw[mD,Lib.validD_ascii l.length l (by rw[List.take_length];exact h),List.drop_length];rfl
theorem sM{b:Nat}(h:b<16):(lZ b).toNat<128:=by
 unfold lZ;split;·rw[UInt8.toNat_ofNat_of_lt' (by show _<256;omega)];omega
 ·rw[UInt8.toNat_ofNat_of_lt' (by show _<256;omega)];omega
theorem gl: ∀l:List UInt8,(mK l).length=2*l.length|[]=>rfl|b::l=>by have:=gl l;unfold mK at this ⊢;rw[List.flatMap_cons,List.length_append,this];simp;omega
theorem vw(s:ByteArray):bW (kR s)=true:=by
 refine qV fun b hb=> ?_;unfold mK at hb;obtain⟨c,hc,hb⟩:=List.mem_flatMap.1 hb;have:=c.toNat_lt;rcases List.mem_cons.1 hb with rfl|hb;·exact sM (by omega)
 ·rcases List.mem_cons.1 hb with rfl|hb;·exact sM (by omega)
  ·cases hb
theorem tP(s:ByteArray):(kR s).size=2*s.size:=by
 unfold kR;rw[kg,gl,Array.length_toList];rfl
theorem jk{n:Int}(h0:0≤n)(h1:n<10):ed n=strOf [UInt8.ofNat (48+n.toNat)]:=by
 unfold ed Lib.itoa;rw[if_neg (by omega),Lib.decDigits_one (by omega)]
theorem jJ{u:aa}(h:bL u):bL (ef u):=by
 obtain⟨hx,hl,h⟩:=h;unfold ef;rcases h with⟨hk,h0,h1,hs⟩|⟨hk,h⟩
 ·rw[if_neg (by omega),jk h0 (by omega)];refine⟨rfl,rfl,.inr ⟨rfl,rfl,?_,qV fun b hb=> ?_⟩⟩;·unfold fA;rw[kg];simp
  ·rw[List.mem_singleton.1 hb,UInt8.toNat_ofNat_of_lt' (by show _<256;omega)];omega
 ·rw[if_pos hk];exact⟨hx,hl,.inr ⟨hk,h⟩⟩
theorem bL.qJ{u:aa}(h:bL u):valOkP u=true:=by
 obtain⟨hx,hl,h⟩:=h;obtain⟨k,n,x,s,l⟩:=u;simp only at hx hl h;subst hx hl;rw[bG];simp only[valsOkP,Bool.and_true];rcases h with⟨rfl,h0,h1,rfl⟩|⟨rfl,rfl,hs,ht⟩;·unfold ae;simp;omega
 ·unfold ae;simp[ht]
theorem bL.same{u:aa}(h:bL u){way:Int}(hw:bF way≠true)(p:List GStep):projP way u p=(u,[]):=by
 have hw4:way≠4:=fun e=>hw (by rw[e];rfl);have h7:=h.2.2;refine ft (by omega) (by omega) (by omega) (fp (by omega)) p

theorem sv{m e:Int}{r:Int×Int}(h:bw m e=some r):a8 r.1 r.2=true:=by
 unfold bw at h;split at h;·injection h with h;subst h;rfl
 ·split at h;·rename_i h2;injection h with h;subst h;exact h2
  ·cases h
theorem mC{n x m e:Int}(h:eh n x=some (m,e)):a8 m e=true:=by
 unfold eh at h;split at h;·exact sv (r:=(m,e)) h
 ·cases h
theorem lC{m e:Int}(h:a8 m e=true):(m=0∧e=0)∨(m≠0∧ -65535≤m∧m≤65535∧m.tmod 2≠0∧ -16≤e∧e≤45∧(e≤30∨(-65535≤m*2^(e-30).toNat∧m*2^(e-30).toNat≤65535))):=by
 unfold a8 at h;by_cases hm:m=0;·rw[if_pos hm] at h;exact .inl ⟨hm,by simpa using h⟩
 ·rw[if_neg hm] at h;simp only[Bool.and_eq_true,Bool.or_eq_true,decide_eq_true_eq] at h;exact .inr ⟨hm,h.1.1.1.1,h.1.1.1.2,h.1.1.2,h.1.2.1,h.1.2.2,h.2⟩
theorem vy{k:Nat}(h:k≤30): ∃q:Int,(2:Int)^k=q∧1≤q∧q≤1073741824:=by
 refine⟨_,rfl,?_,?_⟩;·have:=Int.pow_pos (n:=2) (m:=k) (by omega);omega
 ·have:=Nat.pow_le_pow_right (n:=2) (by omega) h;have e:((2^k:Nat):Int)=(2:Int)^k:=by simp
  rw[←e];have:(2:Nat)^30=1073741824:=by decide
  omega
theorem kA{m q B:Int}(h0: -65535≤m)(h1:m≤65535)(hq0:1≤q)(hq1:q≤B): -(65535*B)≤m*q∧m*q≤65535*B:=by
 have h2:m*q≤65535*q:=Int.mul_le_mul_of_nonneg_right h1 (by omega);have h3: -65535*q≤m*q:=Int.mul_le_mul_of_nonneg_right h0 (by omega);constructor;·rw[Int.neg_mul] at h3;omega
 ·omega
theorem tU{m e:Int}(h:a8 m e=true):valOkP (bE (aE m e).1 (aE m e).2)=true:=by
 unfold aE bE;rcases lC h with⟨rfl,rfl⟩|⟨hm,h0,h1,h2,h3,h4,h5⟩;·rfl
 ·by_cases he:0≤e
  ·rw[if_pos he];simp only[if_true];have hb: -1000000000000000≤m*2^e.toNat∧m*2^e.toNat≤1000000000000000:=by by_cases h30:e≤30;(·obtain⟨q,hq,hq0,hq1⟩:=vy (k:=e.toNat) (by omega);rw[hq];have:=kA h0 h1 hq0 hq1;omega);·rcases h5 with h5|h5;(·omega);·(have e1:e.toNat=(e-30).toNat+30:=by omega);rw[e1,Int.pow_add,←Int.mul_assoc];have:=kA (q:=2^30) (B:=1073741824) h5.1 h5.2 (by decide) (by decide);omega
   rw[bG];simp[ae,valsOkP,hb.1,hb.2]
  ·rw[if_neg he];have hx:e≠0:=by omega
   simp only[if_neg hx];obtain⟨k,hk,hk1,hk2⟩: ∃k:Nat,(-e).toNat=k∧1≤k∧k≤16:=⟨_,rfl,by omega,by omega⟩;rw[hk];have hodd: ¬(2:Int) ∣ m:=fun hd=>h2 (Int.tmod_eq_zero_of_dvd hd);have h5b: ∃q:Int,(5:Int)^k=q∧1≤q∧q≤152587890625∧q%2=1:=by(have hk':k=1∨k=2∨k=3∨k=4∨k=5∨k=6∨k=7∨k=8∨k=9∨k=10∨k=11∨k=12∨k=13∨k=14∨k=15∨k=16:=by omega);rcases hk' with rfl|rfl|rfl|rfl|rfl|rfl|rfl|rfl|rfl|rfl|rfl|rfl|rfl|rfl|rfl|rfl<;>exact⟨_,rfl,by decide,by decide,by decide⟩
   obtain⟨q,hq,hq0,hq1,hq2⟩:=h5b;rw[hq];have hb:=kA h0 h1 hq0 hq1;have hd: ¬(10:Int) ∣ m*q:=by rintro⟨t,ht⟩;apply hodd;refine⟨m*((q+1)/2)-5*t,?_⟩;(have e1:q+1=2*((q+1)/2):=by omega);rw[Int.mul_sub,←Int.mul_assoc 2 m,Int.mul_comm 2 m,Int.mul_assoc m 2,←e1,Int.mul_add,ht];omega
   have hdig:ey (m*q)≤17:=(iL _).2 ⟨by omega,by omega⟩;have ht:(m*q).tmod 10≠0:=fun e0=>hd (Int.dvd_of_tmod_eq_zero e0);rw[bG];have hdec:aT (m*q) e=true:=by unfold aT;simp[hx,hdig,ht];omega
   simp[ae,valsOkP,hdec];omega
mutual
def depG : aa → Nat
  | ⟨_, _, _, _, l⟩ => depL l
def depL : List aa → Nat
  | [] => 0
  | a :: l => max (depG a + 1) (depL l)
end
theorem dz(v:aa):depG v=depL v.l:=by
 cases v;rw[depG]
theorem jN{l:List aa}{d:Nat}:depL l≤d↔ ∀a∈l,depG a+1≤d:=by
 induction l with|nil=>simp[depL]|cons a l ih=>rw[depL,Nat.max_le,ih];simp
theorem dY{v a:aa}(h:a∈v.l):depG a+1≤depG v:=by
 have:=jN.1 (Nat.le_refl (depL v.l)) a h;rw[dz v];exact this

theorem oF(cs:List ai):potL (aj cs)=(cs.map fun c=>2+potG c.name+potG c.val).sum:=by
 induction cs with|nil=>rfl|cons c cs ih=>rw[aQ,potL,potL,ih,List.map_cons,List.sum_cons];omega
theorem qz{α:Type}(f:α→Nat){a b:List α}(h:a.Perm b):(a.map f).sum=(b.map f).sum:=by
 induction h with|nil=>rfl|cons x _ ih=>simp only[List.map_cons,List.sum_cons,ih]|swap x y l=>simp only[List.map_cons,List.sum_cons];omega|trans _ _ ih1 ih2=>rw[ih1,ih2]
theorem oy(f:ai→Nat): ∀l,((aD l).map f).sum≤(l.map f).sum|[]=>by simp[aD]|c::l=>by have:=oy f l;rw[aD];split;(·rw[List.map_cons,List.sum_cons];omega);·rw[List.map_cons,List.sum_cons,List.map_cons,List.sum_cons];omega
theorem iC: ∀l,(aD l).length≤l.length|[]=>by simp[aD]|c::l=>by have:=iC l;rw[aD];split;(·rw[List.length_cons];omega);·rw[List.length_cons,List.length_cons];omega
theorem je: ∀(r:List (aa×List ag))(i:Nat),(aF r i).length=r.length/2|[],i=>by simp[aF]|[a],i=>by simp[aF]|a::b::l,i=>by rw[aF,List.length_cons,je l (i+1)];simp only[List.length_cons];omega
theorem ng: ∀(r:List (aa×List ag))(i:Nat),potL (aj (aF r i))≤potL (r.map (·.1))|[],i=>by simp[aF,aj,potL]|[a],i=>by simp[aF,aj,potL]|a::b::l,i=>by have:=ng l (i+1);rw[aF,aQ,potL,potL,List.map_cons,List.map_cons,potL,potL];simp only;omega
theorem lh{cs:List ai}{u:aa}:u∈aj cs↔ ∃c∈cs,u=c.name∨u=c.val:=by
 unfold aj;rw[List.mem_flatMap];simp
theorem p7: ∀(cs:List ai)(i:Nat)(h:i<(aj cs).length),i%2=0→ ∃c∈cs,(aj cs)[i]=c.name|[],i,h,_=>by simp[aj] at h|c::cs,0,h,_=>⟨c,by simp,by simp[aQ]⟩|c::cs,1,h,he=>by omega|c::cs,i+2,h,he=>by obtain⟨d,hd,e⟩:=p7 cs i (by rw[aQ] at h;simpa using h) (by omega);exact⟨d,by simp[hd],by simp only[aQ,List.getElem_cons_succ];exact e⟩

theorem rL{way:Int}{v:aa}(hok:valOkP v=true)(h9:v.kind≠9)(h10:v.kind≠10)(h11:v.kind≠11):valOkP (bJ way v).1=true∧(bJ way v).1.l=[]∧potG (bJ way v).1≤potG v∧(bJ way v).1.kind≠10:=by
 have ho:=(bm hok).1;have hl:v.l=[]:=by unfold ae at ho;(repeat' (split at ho));(all_goals first|(simp at ho;done)|(simp at ho;first|exact ho.2.2.2|exact ho.2.2|exact ho.2.2.2.2|exact ho.2.2.2.2.2|exact ho.2|skip));all_goals first|omega|(exact ho.2.2.2.1)|skip
 have near:v.kind=3∨v.kind=6→valOkP (ax v.n v.x).1=true∧(ax v.n v.x).1.l=[]∧potG (ax v.n v.x).1≤potG v∧(ax v.n v.x).1.kind≠10:=by intro hk;(have hp:24≤potG v:=by rw[aU,if_neg (by omega),if_pos (by omega)];omega);unfold ax;split;(·exact⟨rfl,rfl,by rw[aU];simp[gd,potL],by simp[gd]⟩);·rename_i m e hne;have hf:=mC hne;refine⟨?_,rfl,by rw[aU];simp[potL];omega,by simp⟩;rw[bG];simp[ae,valsOkP,hf]
 unfold bJ;split;·rename_i h;exact near (.inl h.1)
 ·split;·rename_i h;exact near (.inr h.1)
  ·split
   ·rename_i h;have hf:a8 v.n v.x=true:=by unfold ae at ho;simp[h.1] at ho;exact ho.1
    have hp:24≤potG v:=by rw[aU,if_neg (by omega),if_pos (by omega)];omega
    refine⟨tU hf,?_,?_,?_⟩;·unfold bE;split<;>rfl
    ·rw[aU];unfold bE;split<;>simp[potL]<;>omega
    ·unfold bE;split<;>simp
   ·split;·exact⟨rfl,rfl,by rw[aU];simp[gd,potL],by simp[gd]⟩
    ·split
     ·rename_i h;refine⟨?_,rfl,?_,by simp[fA]⟩;·rw[bG];simp[fA,ae,valsOkP,vw]
      ·rw[aU,aU v,if_pos h.1];simp[fA,potL,tP]
     ·exact⟨hok,hl,Nat.le_refl _,h10⟩
theorem uh{v:aa}(hok:valOkP v=true)(h9:v.kind≠9)(h10:v.kind≠10)(h11:v.kind≠11):v.l=[]:=by
 have ho:=(bm hok).1;unfold ae at ho;repeat' (split at ho)
 all_goals first|(simp at ho;done)|(simp at ho;first|exact ho.2.2.2|exact ho.2.2|exact ho.2.2.2.2|exact ho.2.2.2.2.2|exact ho.2|skip)
 all_goals first|omega|(exact ho.2.2.2.1)|skip
def mU(v u:aa):Prop:=valOkP u=true∧fq u∧potG u≤potG v∧depG u≤depG v
theorem rJ{way k:Int}{a:aa}{i:Nat}{p:List GStep}(hok:valOkP a=true)(hn:fq a)(hm:k=10→i%2=0→bL a)(IH: ∀p,mU a (projP way a p).1):mU a (cl way k a i p).1∧(k=10→i%2=0→bL (cl way k a i p).1):=by
 unfold cl;by_cases hc:k=10∧i%2=0∧bF way=true
 ·rw[if_pos hc];have h0:=hm hc.1 hc.2.1;have h1:=jJ h0;refine⟨⟨h1.qJ,h1.wM,?_,?_⟩,fun _ _=>h1⟩
  ·have h2:=h1.2.1;show potG (ef a)≤potG a;unfold ef at h2 h1 ⊢;by_cases h7:a.kind=7;·simp only[if_pos h7];omega
   ·rw[if_neg h7] at h2 ⊢;have h3:=h0.2.2;rcases h3 with h3|h3;·rw[aU a,if_neg (by omega),if_pos (by omega),aU];simp only[jk h3.2.1 (show a.n<10 by omega)];simp[fA,potL,kg];omega
    ·omega
  ·rw[dz,h1.2.1];simp[depL]
 ·rw[if_neg hc];refine⟨IH _,fun hk hi=> ?_⟩;have h0:=hm hk hi;rw[h0.same (fun e=>hc ⟨hk,hi,e⟩)];exact h0
theorem qd: ∀(l m:List aa),l.length=m.length→(∀i(h:i<l.length)(h':i<m.length),potG l[i]≤potG m[i])→potL l≤potL m|[],[],_,_=>Nat.le_refl _|[],_::_,e,_=>by simp at e|_::_,[],e,_=>by simp at e|a::l,b::m,e,h=>by have h0:=h 0 (by simp) (by simp);simp only[List.getElem_cons_zero] at h0;(have:=qd l m (by simpa using e) fun i h1 h2=>by have:=h (i+1) (by simpa using h1) (by simpa using h2);simpa using this);rw[potL,potL];omega
theorem cM(way:Int)(v:aa):valOkP v=true→fq v→ ∀p,mU v (projP way v p).1:=by
 refine aa.ind (p:=fun v=>valOkP v=true→fq v→ ∀p,mU v (projP way v p).1) (fun v IH hok hn p=> ?_) v;obtain⟨ho,hl⟩:=bm hok;have IH': ∀i(hi:i<v.l.length) p,mU v.l[i] (projP way v.l[i] p).1:=fun i hi=>IH i hi (bo hl hi) (hn.sub.at (List.getElem_mem hi));have hE: ∀(k:Int) i(hi:i<v.l.length) p,(k=10→v.kind=10)→mU v.l[i] (cl way k v.l[i] i p).1∧(k=10→i%2=0→bL (cl way k v.l[i] i p).1):=fun k i hi p hk=>rJ (bo hl hi) (hn.sub.at (List.getElem_mem hi)) (fun e e2=>(hn.own (hk e)).2 i hi e2) (IH' i hi);have hpl: ∀(k:Int) p,(k=10→v.kind=10)→potL ((projL way k v.l 0 p).map (·.1))≤potL v.l:=fun k p hk=>by refine qd _ _ (by rw[List.length_map,bM]) fun i h1 h2=> ?_;rw[List.getElem_map,ct way k p v.l 0 i h2,Nat.zero_add];exact(hE k i h2 p hk).1.2.2.1
 by_cases h9:v.kind=9
 ·rw[dD h9];have hmem: ∀a∈(projL way 9 v.l 0 p).map (·.1),∃i,∃h:i<v.l.length,mU v.l[i] a:=by intro a ha;obtain⟨i,hi,e⟩:=List.getElem_of_mem ha;(have hi':i<v.l.length:=by rwa[List.length_map,bM] at hi);rw[List.getElem_map,ct way 9 p v.l 0 i hi',Nat.zero_add] at e;exact⟨i,hi',e▸(hE 9 i hi' p (by omega)).1⟩
  refine⟨?_,fq.of (by simp) (gg.all fun a ha=> ?_),?_,?_⟩;·rw[bG];simp only[Bool.and_eq_true];refine⟨by simp[ae],?_⟩;rw[da,List.all_eq_true];intro a ha;obtain⟨i,hi,h⟩:=hmem a ha;exact h.1
  ·obtain⟨i,hi,h⟩:=hmem a ha;exact h.2.1
  ·rw[aU,aU v];have:=hpl 9 p (by omega);simp only[h9];simp;omega
  ·rw[dz];simp only;rw[jN];intro a ha;obtain⟨i,hi,h⟩:=hmem a ha;have h1:=dY (List.getElem_mem hi);have:=h.2.2.2;omega
 ·by_cases h10:v.kind=10
  ·rw[dQ h10];unfold eU;show mU v ⟨10,0,0,.empty,aj (cf way (aD (aF (projL way 10 v.l 0 p) 0)))⟩;have hpair: ∀c∈cf way (aD (aF (projL way 10 v.l 0 p) 0)),∃i,∃h:i<v.l.length,∃j,∃h':j<v.l.length,mU v.l[i] c.name∧bL c.name∧mU v.l[j] c.val:=by intro c hc;obtain⟨j,hj,rfl⟩:=jc _ _ _ (oS hc);(have hj':2*j+1<v.l.length:=by rwa[bM] at hj);have e0:=ct way 10 p v.l 0 (2*j) (by omega);have e1:=ct way 10 p v.l 0 (2*j+1) hj';rw[Nat.zero_add] at e0 e1;have k0:=hE 10 (2*j) (by omega) p (fun _=>h10);have k1:=hE 10 (2*j+1) hj' p (fun _=>h10);exact⟨2*j,by omega,2*j+1,hj',by simp only;rw[e0];exact k0.1,by simp only;rw[e0];exact k0.2 rfl (by omega),by simp only;rw[e1];exact k1.1⟩
   refine⟨?_,fq.of (fun _=>⟨?_,fun i hi he=> ?_⟩) (gg.all fun a ha=> ?_),?_,?_⟩
   ·rw[bG];simp only[Bool.and_eq_true];refine⟨by simp[ae,di],?_⟩;rw[da,List.all_eq_true];intro a ha;obtain⟨c,hc,e⟩:=lh.1 ha;obtain⟨i,hi,j,hj,h1,h2,h3⟩:=hpair c hc;rcases e with rfl|rfl;·exact h1.1
    ·exact h3.1
   ·have h1:=(hn.own h10).1;have h2:=iC (aF (projL way 10 v.l 0 p) 0);have h3:=(c7 way (aD (aF (projL way 10 v.l 0 p) 0))).length_eq;rw[je,bM] at h2;show(aj _).length≤6;rw[di];omega
   ·obtain⟨c,hc,e⟩:=p7 _ i hi he;obtain⟨_,_,_,_,_,h2,_⟩:=hpair c hc;show bL ((aj _)[i]);rw[e];exact h2
   ·obtain⟨c,hc,e⟩:=lh.1 ha;obtain⟨i,hi,j,hj,h1,h2,h3⟩:=hpair c hc;rcases e with rfl|rfl;·exact h1.2.1
    ·exact h3.2.1
   ·rw[aU,aU v];simp only[h10];have h1:=hpl 10 p (fun _=>h10);have h2:=ng (projL way 10 v.l 0 p) 0;have h3:=oy (fun c=>2+potG c.name+potG c.val) (aF (projL way 10 v.l 0 p) 0);have h4:=qz (fun c=>2+potG c.name+potG c.val) (c7 way (aD (aF (projL way 10 v.l 0 p) 0)));rw[oF] at h2;simp only[show((10:Int)=8)=False by simp,show((10:Int)=3∨(10:Int)=4∨(10:Int)=6)=False by simp,if_false];rw[oF,h4];have:(ByteArray.empty).size=0:=rfl;omega
   ·rw[dz];simp only;rw[jN];intro a ha;obtain⟨c,hc,e⟩:=lh.1 ha;obtain⟨i,hi,j,hj,h1,h2,h3⟩:=hpair c hc;have d1:=dY (List.getElem_mem hi);have d2:=dY (List.getElem_mem hj);rcases e with rfl|rfl;·have:=h1.2.2.2;omega
    ·have:=h3.2.2.2;omega
  ·by_cases h11:v.kind=11
   ·obtain⟨a,hv,hv0,hv1⟩:=iO ho h11;have ha:v.l=[a]:=by rw[hv]
    have hlt:0<v.l.length:=by rw[ha];simp
    have ha0:v.l[0]=a:=by simp[ha]
    have hI:=IH' 0 hlt (p++[⟨0,false⟩]);rw[ha0] at hI;rw[fe h11 a ha];generalize projP way a (p++[⟨0,false⟩])=r at hI ⊢;have hda:=dY (v:=v) (a:=a) (by rw[ha];simp);split
    ·refine⟨?_,fq.of (by simp) (gg.all fun b hb=> ?_),?_,?_⟩;·rw[bG];simp[ae,valsOkP,hI.1,hv0,hv1]
     ·rw[List.mem_singleton.1 hb];exact hI.2.1
     ·rw[aU,aU v,ha];have:=hI.2.2.1;have:(ByteArray.empty).size=0:=rfl;simp only[h11,potL];simp;omega
     ·rw[dz];simp only;rw[jN];intro b hb;rw[List.mem_singleton.1 hb];have:=hI.2.2.2;omega
    ·refine⟨hI.1,hI.2.1,?_,?_⟩;·have:=hI.2.2.1;rw[aU v,ha,potL,potL];simp only;omega
     ·have:=hI.2.2.2;simp only;omega
   ·rw[dF h9 h10 h11];obtain⟨k1,k2,k3,k4⟩:=rL (way:=way) hok h9 h10 h11;refine⟨k1,fq.of (fun e=>absurd e k4) (gg.all fun a ha=> ?_),k3,?_⟩;·simp only at ha;rw[k2] at ha;cases ha
    ·rw[dz];simp only;rw[k2];simp[depL]
theorem br(v:aa):valOkP v=true→bulkVal v≤potG v:=by
 refine aa.ind (p:=fun v=>valOkP v=true→bulkVal v≤potG v) (fun v IH hok=> ?_) v;obtain⟨ho,hl⟩:=bm hok;rw[aw,aU];have h1:v.s.size≤if v.kind=8 then 2*v.s.size else if v.kind=3∨v.kind=4∨v.kind=6 then 24 else v.s.size:=by split;(·omega);·split;(·rename_i h;(have:v.s=.empty:=by unfold ae at ho;rcases h with h|h|h<;>simp[h] at ho;(·exact ho.2.2.1);(·exact ho.2.1);·exact ho.2.2.1);rw[this];show 0≤24;omega);·omega
 have h2: ∀l:List aa,(∀i(h:i<l.length),bulkVal l[i]≤potG l[i])→bulkVals l≤potL l:=by intro l;induction l with|nil=>intro _;simp[bulkVals,potL]|cons a l ih=>intro h;have h0:=h 0 (by simp);simp only[List.getElem_cons_zero] at h0;(have:=ih fun i hi=>by have:=h (i+1) (by simpa using hi);simpa using this);rw[bulkVals,potL];omega
 have:=h2 v.l fun i hi=>IH i hi (bo hl hi);omega
theorem Ce.pC{g:Nat}{code:List UInt8}{w w':World}(h:Ce g w w'∧dI w' g code){b:Nat}(hb:w.heap.size≤b)(o:Nat)(v:Value):Ce g w (w'.setCell ⟨b,o,none⟩ v)∧dI (w'.setCell ⟨b,o,none⟩ v) g code∨w.heap.size≤g:=by
 rcases Nat.lt_or_ge g w.heap.size with hg|hg;·left;obtain⟨h1,h2⟩:=h;have hB:Below w.heap.size w' (w'.setCell ⟨b,o,none⟩ v):=(Below.refl _ _).setCell (p:=⟨b,o,none⟩) hb _;refine⟨⟨h1.low.trans (hB.mono (by omega)),fun k a1 a2=>(hB.block k a2).trans (h1.high k a1 a2)⟩,?_⟩;obtain⟨A,c,i,hh,k1,k2,k3,k4,k5⟩:=h2;exact⟨A,c,i,hh,(hB.block g hg).trans k1,k2,k3,k4,SS.an k5 (fun x hx=>hB.block x (by omega)) (fun _ h=>h)⟩
 ·exact .inr hg
theorem Ce.kO{g:Nat}{code:List UInt8}{w w':World}(hg:g<w.heap.size)(h:Ce g w w'∧dI w' g code){b:Nat}(hb:w.heap.size≤b)(o:Nat)(v:Value):Ce g w (w'.setCell ⟨b,o,none⟩ v)∧dI (w'.setCell ⟨b,o,none⟩ v) g code:=(Ce.pC h hb o v).resolve_right (by omega)
theorem Ce.bC{g:Nat}{code:List UInt8}{w w':World}(hg:g<w.heap.size)(h:Ce g w w'∧dI w' g code){b:Nat}(hb:w.heap.size≤b)(v0 v1 v2 v3 v4:Value):Ce g w (((((w'.setCell ⟨b,0,none⟩ v0).setCell ⟨b,1,none⟩ v1).setCell ⟨b,2,none⟩ v2).setCell ⟨b,3,none⟩ v3).setCell ⟨b,4,none⟩ v4)∧dI (((((w'.setCell ⟨b,0,none⟩ v0).setCell ⟨b,1,none⟩ v1).setCell ⟨b,2,none⟩ v2).setCell ⟨b,3,none⟩ v3).setCell ⟨b,4,none⟩ v4) g code:=Ce.kO hg (Ce.kO hg (Ce.kO hg (Ce.kO hg (Ce.kO hg h hb 0 v0) hb 1 v1) hb 2 v2) hb 3 v3) hb 4 v4
def ba(k n x:Int)(s:ByteArray):Value:=.agg #[.int .i64 k,.int .i64 n,.int .i64 x,.string s,.slice none 0 0]
theorem dW(g:Nat)(code:List UInt8)(w:World)(hc:dI w g code):Calls Tryz.prog 117 #[.pointer (some ⟨g,0,none⟩)] w (qo g code (-1000000000000000) 1000000000000000 w):=by
 go_enter Tryz.func117,Tryz.ntmps117;go_wp2_with fail;refine(cD g code 2 w (by omega) (by omega) hc).mono ?_;rintro e w1 ⟨b,rfl,hce,hcur⟩;have HX:=xQ (xP hce hcur);clear hce hcur;cases b;all_goals go_wp2_with fail;refine(tz g code w1 HX.out.2).mono ?_;rintro e w2 ⟨k,rfl,hk0,hk1,hce,hcur⟩;have HY:=xQ (xP (HX.out.1.trans hce) hcur);clear hce hcur;go_wp2_with fail;go_ret;exact⟨_,rfl,by omega,by omega,HY.out.1,HY.out.2⟩
def pA:List Int:=[0,97,98,34,92,10,127,128,233,2047,2048,8364,55295,57344,65535,65536,128512,1114111]
theorem ot: ∀x∈pA,(0≤x∧x≤1114111)∧eC x=true:=by
 decide
theorem rD(g:Nat)(code:List UInt8)(w:World)(hc:dI w g code):Calls Tryz.prog 182 #[.pointer (some ⟨g,0,none⟩)] w (wk g code pA w):=by
 have hg:=hc.lt;have HC:=xQ hc;clear hc;go_enter Tryz.func182,Tryz.ntmps182;go_wp2_with fail;refine(ke g code w.heap.size 18 3 pA _ (ah.new w _ _) (by omega) rfl (by omega) (by omega) (HC.out.below (ab (af w) _))).mono ?_;rintro e w2 ⟨k,rfl,hk0,hce,hcur⟩;have HK:=xQ hk0;clear hk0;have HY:=xQ (xP (((Ce.refl g w).add _ (by omega)).trans hce) hcur);clear hce hcur;go_wp2_with fail;go_ret;exact⟨k,rfl,HK.out,HY.out.1,HY.out.2⟩
theorem eu(n:Int)(w:World):Calls Tryz.prog 116 #[.int .i64 n] w (cd w (ba 3 n 0 .empty)):=by
 go_enter Tryz.func116,Tryz.ntmps116;go_wp2_with fail;refine bodyPost_ret (v:=ba 3 n 0 .empty) (by simp[results,ba,Tryz.results116,go_sem, *]<;>rfl) rfl ?_;exact⟨rfl,ab (af w) _⟩
theorem gU(s:ByteArray)(w:World):Calls Tryz.prog 122 #[.string s] w (cd w (ba 7 0 0 s)):=by
 go_enter Tryz.func122,Tryz.ntmps122;go_wp2_with fail;refine bodyPost_ret (v:=ba 7 0 0 s) (by simp[results,ba,Tryz.results122,go_sem, *]<;>rfl) rfl ?_;exact⟨rfl,ab (af w) _⟩
theorem kb(m x:Int)(w:World):Calls Tryz.prog 118 #[.agg #[.int .i64 m,.int .i64 x]] w (cd w (ba 4 m x .empty)):=by
 have B0:=xQ (ab (ab (af w) (.cells #[.int .i64 m,.int .i64 x] 104)) (.cells #[.int .i64 0,.int .i64 0,.int .i64 0,.string .empty,.slice none 0 0] 27));go_enter Tryz.func118,Tryz.ntmps118;go_wp2_with fail;refine bodyPost_ret (v:=ba 4 m x .empty) (by simp[results,ba,Tryz.results118,go_sem, *]<;>rfl) rfl ?_;exact⟨rfl,ab (ab (af w) _) _⟩
def rH(n x:Int):Value:=if x=0 then ba 3 n 0 .empty else ba 6 n x .empty
theorem iW(n x:Int)(w:World):Calls Tryz.prog 120 #[.agg #[.int .i64 n,.int .i64 x]] w (cd w (rH n x)):=by
 have B0:=xQ (ab (ab (af w) (.cells #[.int .i64 n,.int .i64 x] 108)) (.cells #[.int .i64 0,.int .i64 0,.int .i64 0,.string .empty,.slice none 0 0] 27));by_cases hx:x=0
 ·have e:rH n x=ba 3 n 0 .empty:=by unfold rH;rw[if_pos hx]
  rw[e];subst hx;have P1:=xQ (ah.at (w:=w.alloc (.cells #[.int .i64 n,.int .i64 0] 108)) (g:=w.heap.size+1) (t:=27) (cs:=#[.int .i64 0,.int .i64 0,.int .i64 0,.string .empty,.slice none 0 0]) (by simp));go_enter Tryz.func120,Tryz.ntmps120;go_wp2_with fail;refine(eu n _).mono ?_;rintro e w1 ⟨rfl,hb1⟩;unfold ba;have R1:=P1.out.below hb1;obtain⟨f0,f1,f2,f3,f4⟩:=R1.f5;obtain⟨r0,r1,r2,r3,r4⟩:=R1.c5;have hz1:w.heap.size+1<w1.heap.size:=R1.lt;have B1:=xQ (al B0.out hb1);clear hb1 R1;go_wp2_with fail;refine bodyPost_ret (v:=ba 3 n 0 .empty) (by simp[results,ba,Tryz.results120,go_sem, *]<;>rfl) rfl ?_;refine⟨rfl,?_⟩;refine Below.setCell (Below.setCell (Below.setCell (Below.setCell (Below.setCell B1.out ?_ _) ?_ _) ?_ _) ?_ _) ?_ _;all_goals(simp;try omega)
 ·have e:rH n x=ba 6 n x .empty:=by unfold rH;rw[if_neg hx]
  rw[e];have hxb:(x==0)=false:=by simp[hx]
  go_enter Tryz.func120,Tryz.ntmps120;go_wp2_with fail;refine bodyPost_ret (v:=ba 6 n x .empty) (by simp[results,ba,Tryz.results120,go_sem, *]<;>rfl) rfl ?_;exact⟨rfl,ab (ab (af w) _) _⟩
def wW(k n x:Int)(s:ByteArray):Prop:=1≤k∧k≤8∧aX n∧aX x∧s.size≤100
def ue(k n x:Int)(s:ByteArray):Prop:=wW k n x s∧valOkP ⟨k,n,x,s,[]⟩=true
def uE(k n x:Int)(s:ByteArray):Prop:=ue k n x s∧bL ⟨k,n,x,s,[]⟩
theorem bI{k n x:Int}{s:ByteArray}(h:ae ⟨k,n,x,s,[]⟩=true):valOkP ⟨k,n,x,s,[]⟩=true:=by
 rw[bG,h];rfl
def xJ(g:Nat)(code:List UInt8)(w:World)(e:Ending)(w':World):Prop:= ∃k n x s,e=.returned (ba k n x s)∧uE k n x s∧Ce g w w'∧dI w' g code
theorem mO(g:Nat)(code:List UInt8)(w:World)(hc:dI w g code):Calls Tryz.prog 125 #[.pointer (some ⟨g,0,none⟩)] w (xJ g code w):=by
 have hg:=hc.lt;have B0:=xQ (ab (af w) (.cells #[.int .i64 0,.int .i64 0,.int .i64 0,.string .empty,.slice none 0 0] 27));have P0:=xQ (ah.new w 27 #[.int .i64 0,.int .i64 0,.int .i64 0,.string .empty,.slice none 0 0]);have HC:=xQ (hc.below B0.out);clear hc;go_enter Tryz.func125,Tryz.ntmps125;go_wp2_with fail;refine(cD g code 6 _ (by omega) (by omega) HC.out).mono ?_;rintro e w1 ⟨b,rfl,hce,hcur⟩;have P1:=xQ (hce.dc P0.out (by omega));have HX:=xQ (xP ((Ce.of B0.out (by omega)).trans hce) hcur);clear hce hcur;have hz1:w.heap.size<w1.heap.size:=P1.out.lt;cases b
 ·go_wp2_with fail;refine(om g code w1.heap.size 6 9 [⟨#[97]⟩,⟨#[98]⟩,⟨#[99]⟩,⟨#[]⟩,⟨#[107,101,121]⟩,⟨#[195,169]⟩] _ (ah.new w1 _ _) (by omega) rfl (by omega) (by omega) (HX.out.2.below (ab (af w1) _))).mono ?_;rintro e w2 ⟨s,rfl,hs,hce,hcur⟩;have hs8:s.size≤8∧bW s=true:=by(have: ∀s∈([⟨#[97]⟩,⟨#[98]⟩,⟨#[99]⟩,⟨#[]⟩,⟨#[107,101,121]⟩,⟨#[195,169]⟩]:List ByteArray),s.size≤8∧bW s=true:=by decide);exact this s hs
  have HS8:=xQ hs8;clear hs8;have P2:=xQ (hce.dc (P1.out.alloc _) (by omega));have HY:=xQ (xP ((HX.out.1.add _ (by omega)).trans hce) hcur);clear hce hcur hs;go_wp2_with fail;refine(gU s _).mono ?_;rintro e w3 ⟨rfl,hb3⟩;unfold ba;have R3:=P2.out.below hb3;obtain⟨f0,f1,f2,f3,f4⟩:=R3.f5;obtain⟨r0,r1,r2,r3,r4⟩:=R3.c5;have hz3:w.heap.size<w3.heap.size:=R3.lt;have HZ:=xQ (xP (HY.out.1.trans (Ce.of hb3 (by have:=HY.out.2.lt;omega))) (HY.out.2.below hb3));clear hb3 R3;go_wp2_with fail;refine bodyPost_ret (v:=ba 7 0 0 s) (by simp[results,ba,Tryz.results125,go_sem, *]<;>rfl) rfl ?_;have h5:=Ce.bC hg HZ.out (Nat.le_refl w.heap.size) (.int .i64 7) (.int .i64 0) (.int .i64 0) (.string s) (.slice none 0 0);have hs8:=HS8.out;exact⟨7,0,0,s,rfl,⟨⟨⟨by omega,by omega,aX.zero,aX.zero,by omega⟩,bI (by unfold ae;simp[hs8.2])⟩,rfl,rfl,.inr ⟨rfl,rfl,hs8.1,hs8.2⟩⟩,h5.1,h5.2⟩
 ·go_wp2_with fail;refine(av g code 4 w1 (by omega) (by omega) HX.out.2).mono ?_;rintro e w2 ⟨k,rfl,hk0,hk1,hce,hcur⟩;have P2:=xQ (hce.dc P1.out (by omega));have HY:=xQ (xP (HX.out.1.trans hce) hcur);clear hce hcur;go_wp2_with fail;refine(eu k _).mono ?_;rintro e w3 ⟨rfl,hb3⟩;unfold ba;have R3:=P2.out.below hb3;obtain⟨f0,f1,f2,f3,f4⟩:=R3.f5;obtain⟨r0,r1,r2,r3,r4⟩:=R3.c5;have hz3:w.heap.size<w3.heap.size:=R3.lt;have HZ:=xQ (xP (HY.out.1.trans (Ce.of hb3 (by have:=HY.out.2.lt;omega))) (HY.out.2.below hb3));clear hb3 R3;go_wp2_with fail;refine bodyPost_ret (v:=ba 3 k 0 .empty) (by simp[results,ba,Tryz.results125,go_sem, *]<;>rfl) rfl ?_;have h5:=Ce.bC hg HZ.out (Nat.le_refl w.heap.size) (.int .i64 3) (.int .i64 k) (.int .i64 0) (.string .empty) (.slice none 0 0);exact⟨3,k,0,.empty,rfl,⟨⟨⟨by omega,by omega,⟨by omega,by omega⟩,aX.zero,by simp⟩,bI (by unfold ae;simp;omega)⟩,rfl,rfl,.inl ⟨rfl,hk0,by show k≤3;omega,rfl⟩⟩,h5.1,h5.2⟩
def xk(w:World)(e:Ending)(w':World):Prop:= ∃k:Int,e=.returned (.int .i64 k)∧aX k∧Below w.heap.size w w'
theorem xu(y:Int):aX (wrap64 y):=by
 unfold wrap64;exact⟨by omega,by omega⟩
theorem eR(n:Int)(w:World)(hI:aX n):Calls Tryz.prog 200 #[.int .i64 n] w (xk w):=by
 have hq: ∀x:Int,aX x→aX (x.tdiv 10)∧(x.tdiv 10).natAbs=x.natAbs/10:=fun x hx=>by(have h1:(x.tdiv 10).natAbs=x.natAbs/10:=by rw[Int.natAbs_tdiv];rfl);obtain⟨h2,h3⟩:=hx;refine⟨⟨?_,?_⟩,h1⟩<;>omega
 have hi1:=hI.1;have hi2:=hI.2;have HQ:=xQ (xP hq hI);clear hq hI;go_enter Tryz.func200,Tryz.ntmps200;go_wp2_with fail;go_loopg[3,4] ((n.tdiv 10).natAbs) (fun gk kk xx wr=> ∃(k x:Int),kk=.int .i64 k∧xx=.int .i64 x∧gk=x.natAbs∧Hid (aX k)∧aX x∧wr=w);case atStart=>exact⟨1,_,rfl,rfl,rfl,⟨by omega,by omega⟩,(HQ.out.1 n HQ.out.2).1,rfl⟩
 case round=>
  obtain⟨k,x,rfl,rfl,rfl,hk,hx,rfl⟩:=hrel;obtain⟨hx1,hx2⟩:=HQ.out.1 x hx;have hi1:=hx.1;have hi2:=hx.2;by_cases h0:x=0
  ·have hb:(x != 0)=false:=by simp[h0]
   have HZ:=xQ (xP hx1 hx2);clear hx1 hx2 hx h0;go_wp2_with fail;go_ret;exact⟨k,rfl,hk.out,af _⟩
  ·have hb:(x != 0)=true:=by simp[h0]
   have HZ:=xQ (xP hx1 (xP hx2 (xP h0 hx)));clear hx1 hx2 hx h0;have HI:=xQ (xu (k+1));go_wp2_with fail;go_roundg((x.tdiv 10).natAbs);case measure=>have:=HZ.out.2.1;have:=HZ.out.2.2.1;omega
   case rel=>exact⟨_,_,rfl,rfl,rfl,by show aX _;first|exact HI.out|(have:=hk.out;exact⟨by omega,by omega⟩),HZ.out.1,rfl⟩
theorem iv(n:Int)(w:World)(hI:aX n):Calls Tryz.prog 200 #[.int .i64 n] w (cd w (.int .i64 (ey n))):=by
 have hq: ∀x:Int,aX x→aX (x.tdiv 10):=fun x hx=>by have h1:=jA x;obtain⟨h2,h3⟩:=hx;refine⟨?_,?_⟩<;>omega
 have hi1:=hI.1;have hi2:=hI.2;have hD:ey n≤19:=vu hI;obtain⟨r,hr⟩: ∃r,r=ey n:=⟨_,rfl⟩;rw[←hr] at hD ⊢;have R:=xQ hr;clear hr;have HQ:=xQ (xP hq hI);clear hq hI;go_enter Tryz.func200,Tryz.ntmps200;go_wp2_with fail;go_loopg[3,4] ((n.tdiv 10).natAbs) (fun gk kk xx wr=> ∃(k:Nat) (x:Int),kk=.int .i64 k∧xx=.int .i64 x∧gk=x.natAbs∧Hid (k+nd x=r)∧k≤r∧aX x∧wr=w);case atStart=>exact⟨1,_,rfl,rfl,rfl,by show _=_;rw[R.out,vG],by have:=R.out;have:=uq n;omega,HQ.out.1 n HQ.out.2,rfl⟩
 case round=>
  obtain⟨k,x,rfl,rfl,rfl,hk,hkr,hx,rfl⟩:=hrel;have hx1:=HQ.out.1 x hx;have hi1:=hx.1;have hi2:=hx.2;by_cases h0:x=0
  ·have hb:(x != 0)=false:=by simp[h0]
   have hkr2:k=r:=by have:=hk.out;rw[h0] at this;simpa[nd] using this
   subst hkr2;have HZ:=xQ hx1;clear hx1 hx h0;go_wp2_with fail;go_ret;exact⟨rfl,af _⟩
  ·have hb:(x != 0)=true:=by simp[h0]
   have hs:=sK h0;have hk1:k+1≤r:=by have:=hk.out;omega
   have HZ:=xQ (xP hx1 (xP h0 (xP hx hs)));clear hx1 hx h0 hs;go_wp2_with fail;go_roundg((x.tdiv 10).natAbs);case measure=>have:=jA x;have:=HZ.out.2.1;omega
   case rel=>exact⟨k+1,_,by go_num,rfl,rfl,by show _=_;have:=hk.out;have:=HZ.out.2.2.2;omega,hk1,HZ.out.1,rfl⟩
theorem bq(n x:Int)(w:World)(hI:aX n):Calls Tryz.prog 143 #[.agg #[.int .i64 n,.int .i64 x]] w (cd w (.bool (aT n x))):=by
 have P0:=xQ (ah.new w 108 #[.int .i64 n,.int .i64 x]);have B0:=xQ (ab (af w) (.cells #[.int .i64 n,.int .i64 x] 108));have HI:=xQ hI;clear hI;obtain⟨r,hr⟩: ∃r,r=aT n x:=⟨_,rfl⟩;rw[←hr];unfold aT at hr;by_cases hx:x=0
 ·have hxb:(x==0)=true:=by simp[hx]
  rw[if_pos hx] at hr;have R:=xQ hr;clear hx hr;go_enter Tryz.func143,Tryz.ntmps143;go_wp2_with fail;refine(aR _ _ _ _).mono ?_;rintro e w1 ⟨rfl,hb1⟩;rw[←R.out];have B1:=xQ (al B0.out hb1);clear hb1;go_wp2_with fail;go_ret;exact⟨rfl,B1.out⟩
 ·have hxb:(x==0)=false:=by simp[hx]
  rw[if_neg hx] at hr;clear hx;cases hd:decide (-16≤x∧x≤ -1) with|false=>have HD:=xQ hd;rw[hd] at hr;simp only[Bool.false_and] at hr;subst hr;clear hd;go_enter Tryz.func143,Tryz.ntmps143;go_wp2_with fail;refine(aR _ _ _ _).mono ?_;rintro e w1 ⟨rfl,hb1⟩;rw[HD.out];have B1:=xQ (al B0.out hb1);clear hb1;go_wp2_with fail;go_ret;exact⟨rfl,B1.out⟩|true=>rw[hd,Bool.true_and] at hr;have HD:=xQ hd;clear hd;by_cases hm:n.tmod 10=0;(·(have hmb:(n.tmod 10 != 0)=false:=by simp[hm]);(have hr0:r=false:=by rw[hr];simp[hm]);subst hr0;clear hm hr;go_enter Tryz.func143,Tryz.ntmps143;go_wp2_with fail;refine(aR _ _ _ _).mono ?_;rintro e w1 ⟨rfl,hb1⟩;rw[HD.out];obtain⟨p0,p1⟩:=(P0.out.below hb1).c2;have B1:=xQ (al B0.out hb1);clear hb1;go_wp2_with fail;go_ret;exact⟨rfl,B1.out⟩);·(have hmb:(n.tmod 10 != 0)=true:=by simp[hm]);(have hr0:r=decide (ey n≤17):=by rw[hr];simp[hm]);obtain⟨q,hq⟩: ∃q,q=ey n:=⟨_,rfl⟩;(have hqi:decide ((q:Int)≤17)=r:=by rw[hr0,hq];simp;omega);have HR:=xQ (xP hq hqi);clear hm hr hr0 hqi hq;go_enter Tryz.func143,Tryz.ntmps143;go_wp2_with fail;refine(aR _ _ _ _).mono ?_;rintro e w1 ⟨rfl,hb1⟩;rw[HD.out];obtain⟨p0,p1⟩:=(P0.out.below hb1).c2;have B1:=xQ (al B0.out hb1);clear hb1;go_wp2_with fail;refine(iv n w1 HI.out).mono ?_;rintro e w2 ⟨rfl,hb2⟩;rw[←HR.out.1];have B2:=xQ (al B1.out hb2);clear hb2;go_wp2_with fail;go_ret;exact⟨by rw[←HR.out.2];rfl,B2.out⟩
end Go.Proofs.YtodpdjehjllhdaaGreatDoor
