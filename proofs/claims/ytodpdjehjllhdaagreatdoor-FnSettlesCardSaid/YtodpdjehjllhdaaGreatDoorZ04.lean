/- Part of a proof: contracts and plain laws. -/
import Derived.Test.YtodpdjehjllhdaaGreatDoorZ03
set_option linter.unusedVariables false
set_option maxRecDepth 100000
set_option maxHeartbeats 20000000
namespace Go.Proofs.YtodpdjehjllhdaaGreatDoor
open Go.RowKit
def gd:aa:=⟨1,0,0,.empty,[]⟩
def fA(s:ByteArray):aa:=⟨7,0,0,s,[]⟩
def bE(n x:Int):aa:=if x=0 then⟨3,n,0,.empty,[]⟩ else⟨6,n,x,.empty,[]⟩
def ax(n x:Int):aa×Int:=match eh n x with|none=>(gd,3)|some (m,e)=>(⟨4,m,e,.empty,[]⟩,if aE m e=(n,x) then 1 else 2)
def lZ(b:Nat):UInt8:=if b<10 then UInt8.ofNat (48+b) else UInt8.ofNat (87+b)
def mK(l:List UInt8):List UInt8:=l.flatMap fun b=>[lZ (b.toNat/16),lZ (b.toNat%16)]
def kR(s:ByteArray):ByteArray:=strOf (mK s.data.toList)
def bF(way:Int):Bool:=decide (way=1∨way=4)
def bJ(way:Int)(v:aa):aa×Int:=if v.kind=3∧way=4 then ax v.n v.x else if v.kind=6∧(way=2∨way=3∨way=4) then ax v.n v.x else if v.kind=4∧way=1 then(bE (aE v.n v.x).1 (aE v.n v.x).2,1) else if v.kind=5∧bF way=true then(gd,4) else if v.kind=8∧bF way=true then(fA (kR v.s),5) else(v,0)
def ef(v:aa):aa:=if v.kind=7 then v else fA (ed v.n)
def fD(v:aa):List UInt8:=if v.kind=7 then UInt8.ofNat (96+v.s.size)::v.s.data.toList else[UInt8.ofNat v.n.toNat]
def dZ(a b:aa):Bool:=dB (fD a) (fD b)
structure ai where
  at_ : Nat
  name : aa
  nl : List ag
  val : aa
  vl : List ag
def aF:List (aa×List ag)→Nat→List ai|a::b::l,i=>⟨i,a.1,a.2,b.1,b.2⟩::aF l (i+1)|_,_=>[]
def dL(c:ai)(l:List ai):Bool:=l.any fun d=>decide (d.name=c.name)
def aD:List ai→List ai|[]=>[]|c::l=>if dL c l then aD l else c::aD l
def bl(p:List GStep):List ai→List ag|[]=>[]|c::l=>(if dL c l then[⟨8,p++[⟨c.at_,true⟩]⟩] else c.nl++c.vl)++bl p l
def aY(a b:ai):Bool:=dZ a.name b.name
def cf(way:Int)(l:List ai):List ai:=if way=2 then ao aY [] l else l
def eU(way:Int)(cs:List ai)(p:List GStep):aa×List ag:=(⟨10,0,0,.empty,(cf way (aD cs)).flatMap fun c=>[c.name,c.val]⟩,bl p cs++if(cf way (aD cs)).map ai.at_=(aD cs).map ai.at_ then[] else[⟨9,p⟩])
def iw(k:Int)(i:Nat):GStep:=if k=10 then⟨((i/2:Nat):Int),decide (i%2=0)⟩ else⟨i,false⟩
mutual
def projP (way : Int) : aa → List GStep → aa × List ag
  | ⟨k, n, x, s, l⟩, p =>
    if k = 10 then eU way (aF (projL way 10 l 0 p) 0) p
    else if k = 9 then (⟨9, 0, 0, .empty, (projL way 9 l 0 p).map (·.1)⟩, (projL way 9 l 0 p).flatMap (·.2))
    else if k = 11 then (if way = 2 then (⟨11, n, 0, .empty, (projL way 11 l 0 p).map (·.1)⟩, (projL way 11 l 0 p).flatMap (·.2))
      else (((projL way 11 l 0 p).head?.map (·.1)).getD gd, (projL way 11 l 0 p).flatMap (·.2) ++ [⟨6, p⟩]))
    else ((bJ way ⟨k, n, x, s, l⟩).1, if (bJ way ⟨k, n, x, s, l⟩).2 = 0 then [] else [⟨(bJ way ⟨k, n, x, s, l⟩).2, p⟩])
def projL (way k : Int) : List aa → Nat → List GStep → List (aa × List ag)
  | [], _, _ => []
  | a :: l, i, p => (if k = 10 ∧ i % 2 = 0 ∧ bF way = true then (ef a, if a.kind = 7 then [] else [⟨7, p ++ [iw k i]⟩]) else projP way a (p ++ [iw k i])) :: projL way k l (i + 1) p
end
def cl(way k:Int)(a:aa)(i:Nat)(p:List GStep):aa×List ag:=if k=10∧i%2=0∧bF way=true then(ef a,if a.kind=7 then[] else[⟨7,p++[iw k i]⟩]) else projP way a (p++[iw k i])
theorem cF(way k:Int)(a:aa)(l:List aa)(i:Nat)(p:List GStep):projL way k (a::l) i p=cl way k a i p::projL way k l (i+1) p:=by
 rw[projL,cl]
theorem bM(way k:Int)(p:List GStep): ∀(l:List aa)(i:Nat),(projL way k l i p).length=l.length|[],i=>by rw[projL];rfl|a::l,i=>by rw[cF,List.length_cons,bM way k p l,List.length_cons]
theorem ct(way k:Int)(p:List GStep): ∀(l:List aa)(i j:Nat)(h:j<l.length),(projL way k l i p)[j]'(by rw[bM];exact h)=cl way k l[j] (i+j) p|a::l,i,0,h=>by simp only[cF,List.getElem_cons_zero,Nat.add_zero]|a::l,i,j+1,h=>by simp only[cF,List.getElem_cons_succ];rw[ct way k p l (i+1) j (by simpa using h)];rw[show i+1+j=i+(j+1) by omega]
theorem dQ{way:Int}{v:aa}(h:v.kind=10)(p:List GStep):projP way v p=eU way (aF (projL way 10 v.l 0 p) 0) p:=by
 cases v;subst h;rw[projP];simp
theorem dD{way:Int}{v:aa}(h:v.kind=9)(p:List GStep):projP way v p=(⟨9,0,0,.empty,(projL way 9 v.l 0 p).map (·.1)⟩,(projL way 9 v.l 0 p).flatMap (·.2)):=by
 cases v;subst h;rw[projP];simp
theorem fe{way:Int}{v:aa}(h:v.kind=11)(a:aa)(hl:v.l=[a])(p:List GStep):projP way v p=(if way=2 then(⟨11,v.n,0,.empty,[(projP way a (p++[⟨0,false⟩])).1]⟩,(projP way a (p++[⟨0,false⟩])).2) else((projP way a (p++[⟨0,false⟩])).1,(projP way a (p++[⟨0,false⟩])).2++[⟨6,p⟩])):=by
 obtain⟨k,n,x,s,l⟩:=v;subst h hl;rw[projP];simp[projL,iw]
theorem dF{way:Int}{v:aa}(h9:v.kind≠9)(h10:v.kind≠10)(h11:v.kind≠11)(p:List GStep):projP way v p=((bJ way v).1,if(bJ way v).2=0 then[] else[⟨(bJ way v).2,p⟩]):=by
 cases v;rw[projP,if_neg h10,if_neg h9,if_neg h11]
def au(way:Int)(v:aa):aa×List ag:=if valOkP v=true∧1≤way∧way≤4 then((projP way v []).1,a7 (projP way v []).2) else(⟨0,0,0,.empty,[]⟩,[])

def bL(u:aa):Prop:=u.x=0∧u.l=[]∧((u.kind=3∧0≤u.n∧u.n≤3∧u.s=.empty)∨(u.kind=7∧u.n=0∧u.s.size≤8∧bW u.s=true))
def fq(v:aa):Prop:= ∀u,u∈preG v→u.kind=10→u.l.length≤6∧ ∀i(h:i<u.l.length),i%2=0→bL u.l[i]
def gg(l:List aa):Prop:= ∀u,u∈preL l→u.kind=10→u.l.length≤6∧ ∀i(h:i<u.l.length),i%2=0→bL u.l[i]
theorem fq.of{v:aa}(h:v.kind=10→v.l.length≤6∧ ∀i(h:i<v.l.length),i%2=0→bL v.l[i])(hl:gg v.l):fq v:=by
 intro u hu;rw[pv] at hu;rcases List.mem_cons.1 hu with rfl|hu;·exact h
 ·exact hl u hu
theorem fq.own{v:aa}(h:fq v)(hk:v.kind=10):v.l.length≤6∧ ∀i(h:i<v.l.length),i%2=0→bL v.l[i]:=h v (by rw[pv];simp) hk
theorem fq.sub{v:aa}(h:fq v):gg v.l:=fun u hu=>h u (by rw[pv];simp[hu])
theorem qt{l:List aa}{u:aa}:u∈preL l↔ ∃a∈l,u∈preG a:=by
 induction l with|nil=>simp[preL]|cons b l ih=>rw[preL,List.mem_append,ih];simp
theorem gg.at{l:List aa}(h:gg l){a:aa}(ha:a∈l):fq a:=fun u hu=>h u (qt.2 ⟨a,ha,hu⟩)
theorem gg.all{l:List aa}(h: ∀a∈l,fq a):gg l:=fun u hu=>let⟨a,ha,hu'⟩:=qt.1 hu;h a ha u hu'
theorem bL.wM{u:aa}(h:bL u):fq u:=by
 refine fq.of (fun hk=> ?_) (by rw[h.2.1];intro u hu;simp[preL] at hu);rcases h.2.2 with h|h;·omega
 ·omega

mutual
def potG : aa → Nat
  | ⟨k, _, _, s, l⟩ => (if k = 8 then 2 * s.size else if k = 3 ∨ k = 4 ∨ k = 6 then 24 else s.size) + potL l
def potL : List aa → Nat
  | [] => 0
  | a :: l => 1 + potG a + potL l
end
theorem aU(v:aa):potG v=(if v.kind=8 then 2*v.s.size else if v.kind=3∨v.kind=4∨v.kind=6 then 24 else v.s.size)+potL v.l:=by
 cases v;rw[potG]
theorem sO(l:List aa):potL l=l.length+(l.map potG).sum:=by
 induction l with|nil=>simp[potL]|cons a l ih=>simp only[potL,List.length_cons,List.map_cons,List.sum_cons,ih];omega
theorem fE{l:List aa}{a:aa}(h:a∈l):1+potG a≤potL l:=by
 induction l with|nil=>cases h|cons b l ih=>rw[potL];rcases List.mem_cons.1 h with rfl|h;(·omega);·have:=ih h;omega
theorem nD:jm aY:=⟨fun a=>ir.irr _,fun a b h=>ir.pH _ _ h,fun a b c h1 h2=>ir.oZ.le_trans _ (fD b.name) _ h1 h2⟩
theorem oR{α:Type}{lt:α→α→Bool}(O:jm lt): ∀(xs q:List α),bU lt (q++xs)→ao lt q xs=q++xs|[],q,h=>by simp[ao]|x::xs,q,h=>by rw[ao];(have hb:bQ lt q x=q++[x]:=by unfold bQ;cases hr:q.reverse with|nil=>rw[List.reverse_eq_nil_iff] at hr;subst hr;simp[cI]|cons y ys=>(have hq:q=ys.reverse++[y]:=by rw[←List.reverse_reverse q,hr];simp);(have hlt:lt x y=false:=by unfold bU at h;rw[List.pairwise_append] at h;exact h.2.2 y (by rw[hq];simp) x (by simp));rw[cI,if_neg (by rw[hlt];simp),hq];simp);rw[hb,oR O xs (q++[x]) (by simpa using h)];simp
theorem c7(way:Int)(l:List ai):(cf way l).Perm l:=by
 unfold cf;split;·have:=bS aY l [];simpa using this
 ·exact .refl _
def aj(cs:List ai):List aa:=cs.flatMap fun c=>[c.name,c.val]
theorem aQ(c:ai)(cs:List ai):aj (c::cs)=c.name::c.val::aj cs:=by
 simp[aj]
theorem di: ∀cs,(aj cs).length=2*cs.length|[]=>rfl|c::cs=>by rw[aQ];simp only[List.length_cons,di cs];omega
theorem jc: ∀(r:List (aa×List ag))(i:Nat)(c:ai),c∈aF r i→ ∃j,∃h:2*j+1<r.length,c=⟨i+j,r[2*j].1,r[2*j].2,r[2*j+1].1,r[2*j+1].2⟩|[],i,c,h=>by simp[aF] at h|[a],i,c,h=>by simp[aF] at h|a::b::l,i,c,h=>by rw[aF] at h;rcases List.mem_cons.1 h with rfl|h;(·exact⟨0,by simp,by simp⟩);·obtain⟨j,hj,rfl⟩:=jc l (i+1) c h;refine⟨j+1,by simp;omega,?_⟩;simp only[show 2*(j+1)=2*j+1+1 by omega,List.getElem_cons_succ];congr 1;omega
theorem lv: ∀(r:List (aa×List ag))(i:Nat),r.length%2=0→aj (aF r i)=r.map (·.1)|[],i,h=>rfl|[a],i,h=>by simp at h|a::b::l,i,h=>by rw[aF,aQ,lv l (i+1) (by simp only[List.length_cons] at h;omega)];rfl
theorem iT: ∀(l:List ai)(c:ai),c∈aD l→c∈l|[],c,h=>h|d::l,c,h=>by rw[aD] at h;split at h;(·exact List.mem_cons_of_mem _ (iT l c h));·rcases List.mem_cons.1 h with rfl|h;(·simp);·exact List.mem_cons_of_mem _ (iT l c h)
theorem fT{c:ai}{l:List ai}:dL c l=true↔c.name∈l.map ai.name:=by
 unfold dL;simp only[List.any_eq_true,decide_eq_true_eq,List.mem_map]
theorem iB: ∀(l:List ai),((aD l).map ai.name).Nodup∧ ∀x,x∈(aD l).map ai.name↔x∈l.map ai.name|[]=>⟨by simp[aD],by simp[aD]⟩|c::l=>by obtain⟨h1,h2⟩:=iB l;rw[aD];by_cases h:dL c l=true;(·rw[if_pos h];refine⟨h1,fun x=> ?_⟩;rw[h2,List.map_cons,List.mem_cons];have:=fT.1 h;constructor;(·exact .inr);·rintro(rfl|h3);(·exact this);·exact h3);·rw[if_neg h];refine⟨?_,fun x=> ?_⟩;(·rw[List.map_cons,List.nodup_cons];exact⟨fun h3=>h (fT.2 ((h2 _).1 h3)),h1⟩);·rw[List.map_cons,List.map_cons,List.mem_cons,List.mem_cons,h2]
theorem nA: ∀(l:List ai),(l.map ai.name).Nodup→aD l=l|[],_=>rfl|c::l,h=>by rw[List.map_cons,List.nodup_cons] at h;rw[aD,if_neg (fun h3=>h.1 (fT.1 h3)),nA l h.2]
theorem qB(way:Int)(l:List ai):((cf way (aD l)).map ai.name).Nodup:=((c7 way (aD l)).map ai.name).nodup_iff.2 (iB l).1
theorem oS{way:Int}{l:List ai}{c:ai}(h:c∈cf way (aD l)):c∈l:=iT l c ((c7 way (aD l)).mem_iff.1 h)
def eJ:List ai→Nat→List ai|[],_=>[]|c::l,i=>⟨i,c.name,[],c.val,[]⟩::eJ l (i+1)
theorem fM: ∀(l:List ai)(i:Nat),(eJ l i).map ai.name=l.map ai.name|[],_=>rfl|c::l,i=>by rw[eJ,List.map_cons,List.map_cons,fM l (i+1)]
theorem mm: ∀(l:List ai)(i:Nat),aj (eJ l i)=aj l|[],_=>rfl|c::l,i=>by rw[eJ,aQ,aQ,mm l (i+1)]
theorem mE(p:List GStep): ∀(l:List ai)(i:Nat),(l.map ai.name).Nodup→bl p (eJ l i)=[]|[],_,_=>rfl|c::l,i,h=>by rw[List.map_cons,List.nodup_cons] at h;rw[eJ,bl,mE p l (i+1) h.2,if_neg (fun h3=>h.1 (by have:=fT.1 h3;rwa[fM] at this))];rfl
theorem oo: ∀(l:List ai)(i:Nat),bU aY l→bU aY (eJ l i)|[],_,_=>by simp[eJ,bU]|c::l,i,h=>by unfold bU at h ⊢;rw[List.pairwise_cons] at h;rw[eJ,List.pairwise_cons];refine⟨fun b hb=> ?_,oo l (i+1) h.2⟩;(have:b.name∈l.map ai.name:=by rw[←fM l (i+1)];exact List.mem_map_of_mem hb);obtain⟨d,hd,e⟩:=List.mem_map.1 this;have:=h.1 d hd;unfold aY at this ⊢;rw[←e];exact this
def Fix(way:Int)(u:aa):Prop:= ∀q,projP way u q=(u,[])
def uN(way:Int)(u:aa):Prop:=if bF way=true then u.kind=7 else Fix way u
theorem wC{way:Int}{u:aa}(h:uN way u)(i:Nat)(hi:i%2=0)(q:List GStep):cl way 10 u i q=(u,[]):=by
 unfold uN at h;unfold cl;by_cases ht:bF way=true;·rw[if_pos ht] at h;rw[if_pos ⟨rfl,hi,ht⟩,if_pos h];unfold ef;rw[if_pos h]
 ·rw[if_neg ht] at h;rw[if_neg (fun e=>ht e.2.2)];exact h _
theorem xq{way:Int}{u:aa}(h:Fix way u)(i:Nat)(hi:i%2=1)(q:List GStep):cl way 10 u i q=(u,[]):=by
 unfold cl;rw[if_neg (by omega)];exact h _
theorem nE(way:Int)(q:List GStep): ∀(cs:List ai)(i j:Nat),i%2=0→(∀c,c∈cs→uN way c.name∧Fix way c.val)→aF (projL way 10 (aj cs) i q) j=eJ cs j|[],i,j,hi,h=>by simp[aj,projL,aF,eJ]|c::cs,i,j,hi,h=>by have h0:=h c (by simp);rw[aQ,cF,cF,wC h0.1 i hi,xq h0.2 (i+1) (by omega),aF,eJ,nE way q cs (i+1+1) (j+1) (by omega) (fun d hd=>h d (by simp[hd]))]
theorem vt{way:Int}{cs:List ai}(hn:(cs.map ai.name).Nodup)(hs:way=2→bU aY cs)(h: ∀c,c∈cs→uN way c.name∧Fix way c.val):Fix way ⟨10,0,0,.empty,aj cs⟩:=by
 intro q;rw[dQ rfl,nE way q cs 0 0 rfl h];have hk:aD (eJ cs 0)=eJ cs 0:=nA _ (by rw[fM];exact hn);have hS:cf way (eJ cs 0)=eJ cs 0:=by unfold cf;split;(·rename_i hw;exact oR nD _ [] (oo cs 0 (hs hw)));·rfl
 unfold eU;rw[hk,hS,if_pos rfl,mE q cs 0 hn,List.append_nil];have:=mm cs 0;unfold aj at this ⊢;rw[this]
theorem ug{way:Int}{l:List aa}(h: ∀a,a∈l→Fix way a):Fix way ⟨9,0,0,.empty,l⟩:=by
 intro q;rw[dD rfl];have key: ∀(l:List aa)(i:Nat),(∀a,a∈l→Fix way a)→projL way 9 l i q=l.map fun a=>(a,[]):=by intro l;induction l with|nil=>intro i _;simp[projL]|cons a l ih=>intro i h;rw[cF,ih (i+1) fun b hb=>h b (by simp[hb])];unfold cl;rw[if_neg (by omega),h a (by simp)];rfl
 simp only;rw[key l 0 h];simp[Function.comp_def]
theorem ft{way:Int}{u:aa}(h9:u.kind≠9)(h10:u.kind≠10)(h11:u.kind≠11)(h:bJ way u=(u,0)):Fix way u:=by
 intro q;rw[dF h9 h10 h11,h];simp
theorem ig(n x:Int):(ax n x).1.kind=1∨(ax n x).1.kind=4:=by
 unfold ax;split<;>simp[gd]
theorem jD(n x:Int):(ax n x).2≠0:=by
 unfold ax;split;·simp
 ·simp only;split<;>simp
theorem fp{way:Int}{v:aa}(h:v.kind=1∨v.kind=7∨(v.kind=4∧way≠1)∨(v.kind=3∧way≠4)∨(v.kind=6∧way=1)):bJ way v=(v,0):=by
 unfold bJ bF;rw[if_neg (by omega),if_neg (by omega),if_neg (by omega),if_neg (by omega),if_neg (by omega)]
theorem tn{way:Int}{v:aa}(hw:1≤way∧way≤4)(h9:v.kind≠9)(h10:v.kind≠10)(h11:v.kind≠11):Fix way (bJ way v).1:=by
 unfold bJ;split;·rename_i h;rcases ig v.n v.x with e|e<;>exact ft (by omega) (by omega) (by omega) (fp (by omega))
 ·split;·rename_i h;rcases ig v.n v.x with e|e<;>exact ft (by omega) (by omega) (by omega) (fp (by omega))
  ·split
   ·rename_i h;simp only;have:(bE (aE v.n v.x).1 (aE v.n v.x).2).kind=3∨(bE (aE v.n v.x).1 (aE v.n v.x).2).kind=6:=by unfold bE;split<;>simp
    rcases this with e|e<;>exact ft (by omega) (by omega) (by omega) (fp (by omega))
   ·split;·exact ft (u:=gd) (by decide) (by decide) (by decide) (fp (.inl rfl))
    ·split;·exact ft (u:=fA (kR v.s)) (by simp[fA]) (by simp[fA]) (by simp[fA]) (fp (.inr (.inl rfl)))
     ·rename_i h1 h2 h3 h4 h5;refine ft h9 h10 h11 ?_;unfold bJ;rw[if_neg h1,if_neg h2,if_neg h3,if_neg h4,if_neg h5]
theorem tg(way:Int)(hw:1≤way∧way≤4)(v:aa):valOkP v=true→fq v→ ∀p,Fix way (projP way v p).1:=by
 refine aa.ind (p:=fun v=>valOkP v=true→fq v→ ∀p,Fix way (projP way v p).1) (fun v IH hok hn p=> ?_) v;obtain⟨ho,hl⟩:=bm hok;by_cases h9:v.kind=9
 ·rw[dD h9];refine ug fun a ha=> ?_;obtain⟨r,hr,rfl⟩:=List.mem_map.1 ha;obtain⟨j,hj,e⟩:=List.getElem_of_mem hr;have hj':j<v.l.length:=by rwa[bM] at hj
  rw[ct way 9 p v.l 0 j hj'] at e;rw[←e];unfold cl;rw[if_neg (by omega)];exact IH j hj' (bo hl hj') (hn.sub.at (List.getElem_mem hj')) _
 ·by_cases h10:v.kind=10
  ·rw[dQ h10];unfold eU;refine vt (cs:=cf way (aD (aF (projL way 10 v.l 0 p) 0))) (qB way _) (fun hw2=> ?_) fun c hc=> ?_;·unfold cf;rw[if_pos hw2];exact fj nD _ [] bU.nil
   ·obtain⟨j,hj,rfl⟩:=jc _ _ _ (oS hc);have hj':2*j+1<v.l.length:=by rwa[bM] at hj
    have e0:=ct way 10 p v.l 0 (2*j) (by omega);have e1:=ct way 10 p v.l 0 (2*j+1) hj';simp only;rw[e0,e1];have hm:=(hn.own h10).2 (2*j) (by omega) (by omega);constructor
    ·unfold uN;split
     ·rename_i ht;unfold cl;rw[if_pos ⟨rfl,by omega,ht⟩];simp only;unfold ef;split;·rename_i h7;exact h7
      ·rfl
     ·rename_i ht;unfold cl;rw[if_neg (fun e=>ht e.2.2)];exact IH (2*j) (by omega) (bo hl (by omega)) (hn.sub.at (List.getElem_mem _)) _
    ·unfold cl;rw[if_neg (by omega)];exact IH (2*j+1) hj' (bo hl hj') (hn.sub.at (List.getElem_mem _)) _
  ·by_cases h11:v.kind=11
   ·have hlen:v.l.length=1:=by unfold ae at ho;simp[h11] at ho;exact ho.2.2.2
    obtain⟨a,ha⟩:=List.length_eq_one_iff.1 hlen;have ha0:v.l[0]=a:=by simp[ha]
    have hIa:Fix way (projP way a (p++[⟨0,false⟩])).1:=by rw[←ha0];exact IH 0 (by omega) (bo hl (by omega)) (hn.sub.at (List.getElem_mem _)) _
    rw[fe h11 a ha];split;·rename_i h2;intro q;generalize(projP way a (p++[⟨0,false⟩])).1=u at hIa;simp only;rw[fe (way:=way) (v:=⟨11,v.n,0,.empty,[u]⟩) rfl u rfl q,if_pos h2,hIa]
    ·exact hIa
   ·rw[dF h9 h10 h11];exact tn hw h9 h10 h11
theorem flatMap_nil{α β:Type}{f:α→List β}: ∀{l:List α},l.flatMap f=[]→ ∀a∈l,f a=[]|[],_,a,h=>absurd h (by simp)|b::l,e,a,h=>by rw[List.flatMap_cons,List.append_eq_nil_iff] at e;rcases List.mem_cons.1 h with rfl|h;(·exact e.1);·exact flatMap_nil e.2 a h
theorem jM(p:List GStep): ∀{l:List ai},bl p l=[]→(l.map ai.name).Nodup∧ ∀c∈l,c.nl=[]∧c.vl=[]|[],_=>⟨by simp,by simp⟩|c::l,h=>by rw[bl,List.append_eq_nil_iff] at h;obtain⟨h1,h2⟩:=jM p h.2;by_cases hg:dL c l=true;(·rw[if_pos hg] at h;simp at h);·rw[if_neg hg,List.append_eq_nil_iff] at h;refine⟨?_,fun d hd=> ?_⟩;(·rw[List.map_cons,List.nodup_cons];exact⟨fun h3=>hg (fT.2 h3),h1⟩);·rcases List.mem_cons.1 hd with rfl|hd;(·exact h.1);·exact h2 d hd
theorem rX{way:Int}{v:aa}(h:(bJ way v).2=0):(bJ way v).1=v:=by
 unfold bJ at h ⊢;split at h;·exact absurd h (jD _ _)
 ·split at h;·exact absurd h (jD _ _)
  ·split at h;·simp at h
   ·split at h;·simp at h
    ·split at h;·simp at h
     ·rename_i h1 h2 h3 h4 h5;rw[if_neg h1,if_neg h2,if_neg h3,if_neg h4,if_neg h5]
theorem rz{v:aa}(h:ae v=true)(hk:v.kind=9):v=⟨9,0,0,.empty,v.l⟩:=by
 obtain⟨k,n,x,s,l⟩:=v;simp only at hk;subst hk;simp[ae] at h;obtain⟨rfl,rfl,rfl⟩:=h;rfl
theorem ga{v:aa}(h:ae v=true)(hk:v.kind=10):v=⟨10,0,0,.empty,v.l⟩∧v.l.length%2=0:=by
 obtain⟨k,n,x,s,l⟩:=v;simp only at hk;subst hk;simp[ae] at h;obtain⟨rfl,rfl,rfl,h⟩:=h;exact⟨rfl,by simpa using h⟩
theorem iO{v:aa}(h:ae v=true)(hk:v.kind=11): ∃a,v=⟨11,v.n,0,.empty,[a]⟩∧0≤v.n∧v.n≤1000000000000000:=by
 obtain⟨k,n,x,s,l⟩:=v;simp only at hk;subst hk;simp[ae] at h;obtain⟨⟨h1,h2⟩,rfl,rfl,h⟩:=h;obtain⟨a,rfl⟩:=List.length_eq_one_iff.1 h;exact⟨a,rfl,h1,h2⟩
theorem rG{way k:Int}{a:aa}{i:Nat}{p:List GStep}(h:(cl way k a i p).2=[])(IH: ∀p,(projP way a p).2=[]→(projP way a p).1=a):(cl way k a i p).1=a:=by
 unfold cl at h ⊢;by_cases hc:k=10∧i%2=0∧bF way=true
 ·rw[if_pos hc] at h ⊢;simp only at h ⊢;by_cases h7:a.kind=7;·unfold ef;rw[if_pos h7]
  ·rw[if_neg h7] at h;simp at h
 ·rw[if_neg hc] at h ⊢;exact IH _ h
theorem nr{way k:Int}{l:List aa}{p:List GStep}(h: ∀r∈projL way k l 0 p,r.2=[])(IH: ∀i(hi:i<l.length) p,(projP way l[i] p).2=[]→(projP way l[i] p).1=l[i]):(projL way k l 0 p).map (·.1)=l:=by
 apply List.ext_getElem (by rw[List.length_map,bM]);intro i h1 h2;rw[List.getElem_map,ct way k p l 0 i h2];refine rG ?_ (IH i h2);rw[←ct way k p l 0 i h2];exact h _ (List.getElem_mem _)
theorem lu: ∀(r:List (aa×List ag))(i:Nat),r.length%2=0→(∀c∈aF r i,c.nl=[]∧c.vl=[])→ ∀x∈r,x.2=[]|[],i,_,_,x,h=>by cases h|[a],i,he,_,x,h=>by simp at he|a::b::l,i,he,hc,x,h=>by rw[aF] at hc;have h0:=hc _ (List.mem_cons_self ..);rcases List.mem_cons.1 h with rfl|h;(·exact h0.1);·rcases List.mem_cons.1 h with rfl|h;(·exact h0.2);·exact lu l (i+1) (by simp only[List.length_cons] at he;omega) (fun c hc'=>hc c (List.mem_cons_of_mem _ hc')) x h
theorem iR: ∀(r:List (aa×List ag))(i:Nat),(aF r i).map ai.at_=(List.range' i (r.length/2))|[],i=>by simp[aF]|[a],i=>by simp[aF]|a::b::l,i=>by rw[aF,List.map_cons,iR l (i+1)];(have:(a::b::l).length/2=l.length/2+1:=by simp only[List.length_cons];omega);rw[this,List.range'_succ]
theorem uX{a b:List ai}(hp:a.Perm b)(hn:(b.map ai.at_).Nodup)(h:a.map ai.at_=b.map ai.at_):a=b:=by
 have hlen:a.length=b.length:=hp.length_eq;apply List.ext_getElem hlen;intro i h1 h2;have e:(a[i]).at_=(b[i]).at_:=by have:=congrArg (fun l=>l[i]?) h;simp only[List.getElem?_map,List.getElem?_eq_getElem h1,List.getElem?_eq_getElem h2,Option.map_some,Option.some.injEq] at this;exact this
 have hm:a[i]∈b:=hp.mem_iff.1 (List.getElem_mem h1);obtain⟨j,hj,ej⟩:=List.getElem_of_mem hm;have:(b.map ai.at_)[j]'(by simpa using hj)=(b.map ai.at_)[i]'(by simpa using h2):=by simp[ej,e]
 have:=(List.getElem_inj hn).1 this;subst this;exact ej.symm
theorem rK(way:Int)(v:aa):valOkP v=true→ ∀p,(projP way v p).2=[]→(projP way v p).1=v:=by
 refine aa.ind (p:=fun v=>valOkP v=true→ ∀p,(projP way v p).2=[]→(projP way v p).1=v) (fun v IH hok p h=> ?_) v;obtain⟨ho,hl⟩:=bm hok;have IH': ∀i(hi:i<v.l.length) p,(projP way v.l[i] p).2=[]→(projP way v.l[i] p).1=v.l[i]:=fun i hi=>IH i hi (bo hl hi);by_cases h9:v.kind=9;·rw[dD h9] at h ⊢;simp only at h ⊢;rw[nr (fun r hr=>flatMap_nil h r hr) IH'];exact(rz ho h9).symm
 ·by_cases h10:v.kind=10
  ·rw[dQ h10] at h ⊢;obtain⟨hv,heven⟩:=ga ho h10;unfold eU at h ⊢;simp only[List.append_eq_nil_iff] at h;obtain⟨h1,h2⟩:=h;obtain⟨h3,h4⟩:=jM p h1;have hr2:(projL way 10 v.l 0 p).length%2=0:=by rw[bM];exact heven
   have hk:=nA _ h3;rw[hk] at h2 ⊢;have hat:(cf way (aF (projL way 10 v.l 0 p) 0)).map ai.at_=(aF (projL way 10 v.l 0 p) 0).map ai.at_:=by by_cases e:(cf way (aF (projL way 10 v.l 0 p) 0)).map ai.at_=(aF (projL way 10 v.l 0 p) 0).map ai.at_;(·exact e);·rw[if_neg e] at h2;simp at h2
   rw[uX (c7 way _) (by rw[iR];exact List.nodup_range') hat];have hf:=lv (projL way 10 v.l 0 p) 0 hr2;unfold aj at hf;simp only;rw[hf,nr (lu _ 0 hr2 h4) IH'];exact hv.symm
  ·by_cases h11:v.kind=11
   ·obtain⟨a,hv,_⟩:=iO ho h11;have ha:v.l=[a]:=by rw[hv]
    rw[fe h11 a ha] at h ⊢;by_cases h2:way=2
    ·rw[if_pos h2] at h ⊢;simp only at h ⊢;have ha0:v.l[0]'(by rw[ha];simp)=a:=by simp[ha]
     have:=IH' 0 (by rw[ha];simp) (p++[⟨0,false⟩]) (by rw[ha0];exact h);rw[ha0] at this;rw[this,hv]
    ·rw[if_neg h2] at h;simp at h
   ·rw[dF h9 h10 h11] at h ⊢;simp only at h ⊢;by_cases e:(bJ way v).2=0;·exact rX e
    ·rw[if_neg e] at h;simp at h
end Go.Proofs.YtodpdjehjllhdaaGreatDoor
