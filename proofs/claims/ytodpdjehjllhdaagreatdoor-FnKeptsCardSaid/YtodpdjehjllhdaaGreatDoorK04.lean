/- Part of a proof: contracts and plain laws. -/
import Derived.Test.YtodpdjehjllhdaaGreatDoorK03
set_option linter.unusedVariables false
set_option linter.unusedSimpArgs false
set_option maxRecDepth 100000
set_option maxHeartbeats 20000000
namespace Go.Proofs.YtodpdjehjllhdaaGreatDoor
open Go.RowKit
def iO(n d:Nat)(l:List ag):Prop:=l.length≤n∧ ∀x∈l,x.p.length≤d∧1≤x.kind∧x.kind≤9
theorem iO.nil(n d:Nat):iO n d []:=⟨by simp,by simp⟩
theorem iO.one{n d:Nat}{x:ag}(hn:1≤n)(h:x.p.length≤d∧1≤x.kind∧x.kind≤9):iO n d [x]:=⟨by simpa using hn,by simpa using h⟩
theorem iO.app{n m d:Nat}{a b:List ag}(ha:iO n d a)(hb:iO m d b):iO (n+m) d (a++b):=⟨by rw[List.length_append];have:=ha.1;have:=hb.1;omega,fun x hx=>by rcases List.mem_append.1 hx with h|h;(·exact ha.2 x h);·exact hb.2 x h⟩
theorem iO.mono{n m d e:Nat}{a:List ag}(h:iO n d a)(hn:n≤m)(hd:d≤e):iO m e a:=⟨Nat.le_trans h.1 hn,fun x hx=>⟨Nat.le_trans (h.2 x hx).1 hd,(h.2 x hx).2⟩⟩
theorem ke(way:Int)(v:aa):0≤(cB way v).2∧(cB way v).2≤5:=by
 have near:0≤(aD v.n v.x).2∧(aD v.n v.x).2≤5:=by unfold aD;split;(·exact⟨by decide,by decide⟩);·simp only;split<;>exact⟨by decide,by decide⟩
 unfold cB;split;·exact near
 ·split;·exact near
  ·split;·exact⟨by simp,by simp⟩
   ·split;·exact⟨by simp,by simp⟩
    ·split<;>exact⟨by simp,by simp⟩
theorem sQ(way:Int){d:Nat}{p:List GStep}(hp:p.length+1≤d): ∀(l:List aa)(i n:Nat),(∀j(h:j<l.length),iO (1+bulkVal l[j]) d (cU way 10 l[j] (i+j) p).2)→iO (bulkVals l) d (aU p (aO (projL way 10 l i p) n))|[],i,n,_=>by rw[projL,aO];exact iO.nil _ _;simp|[a],i,n,_=>by rw[cE,projL,aO];exact iO.nil _ _;simp|a::b::l,i,n,h=>by have h0:=h 0 (by simp);have h1:=h 1 (by simp);simp only[List.getElem_cons_zero,Nat.add_zero,List.getElem_cons_succ] at h0 h1;(have hr:=sQ way hp l (i+1+1) (n+1) fun j hj=>by have:=h (j+1+1) (by simpa using hj);simp only[List.getElem_cons_succ] at this;rwa[show i+(j+1+1)=i+1+1+j by omega] at this);rw[cE,cE,aO,aU,bulkVals,bulkVals];refine(iO.app (n:=(1+bulkVal a)+(1+bulkVal b)) ?_ hr).mono (by omega) (Nat.le_refl _);split;(·exact iO.one (by omega) ⟨by simp;omega,by simp,by simp⟩);·exact h0.app h1
theorem oa(way k:Int){d:Nat}{p:List GStep}: ∀(l:List aa)(i:Nat),(∀j(h:j<l.length),iO (1+bulkVal l[j]) d (cU way k l[j] (i+j) p).2)→iO (bulkVals l) d ((projL way k l i p).flatMap (·.2))|[],i,_=>by rw[projL];exact iO.nil _ _|a::l,i,h=>by have h0:=h 0 (by simp);simp only[List.getElem_cons_zero,Nat.add_zero] at h0;(have h1:=oa way k l (i+1) fun j hj=>by have:=h (j+1) (by simpa using hj);simp only[List.getElem_cons_succ] at this;rwa[show i+(j+1)=i+1+j by omega] at this);rw[cE,List.flatMap_cons,bulkVals];exact h0.app h1
theorem df(way:Int)(v:aa): ∀p,iO (1+bulkVal v) (p.length+depG v) (projP way v p).2:=by
 refine aa.ind (p:=fun v=> ∀p,iO (1+bulkVal v) (p.length+depG v) (projP way v p).2) (fun v IH p=> ?_) v;have hE: ∀k i(hi:i<v.l.length) p,iO (1+bulkVal v.l[i]) (p.length+depG v) (cU way k v.l[i] i p).2:=by intro k i hi p;have hd:=dr (List.getElem_mem hi);unfold cU;split;(·simp only;split;(·exact iO.nil _ _);·exact iO.one (by omega) ⟨by simp;omega,by simp,by simp⟩);·exact(IH i hi _).mono (Nat.le_refl _) (by simp;omega)
 rw[au];have hE0: ∀k j(hj:j<v.l.length),iO (1+bulkVal v.l[j]) (p.length+depG v) (cU way k v.l[j] (0+j) p).2:=fun k j hj=>by rw[Nat.zero_add];exact hE k j hj p
 by_cases h9:v.kind=9;·rw[fc h9];exact(oa way 9 v.l 0 (hE0 9)).mono (by omega) (Nat.le_refl _)
 ·by_cases h10:v.kind=10
  ·rw[dK h10];unfold eB;simp only;have ho:iO 1 (p.length+depG v) (if(aS way (ar (aO (projL way 10 v.l 0 p) 0))).map ah.at_=(ar (aO (projL way 10 v.l 0 p) 0)).map ah.at_ then[] else[⟨9,p⟩]):=by split;(·exact iO.nil _ _);·exact iO.one (by omega) ⟨by simp,by simp,by simp⟩
   by_cases hl:v.l=[]
   ·refine((iO.app (n:=0) ?_ ho)).mono (by omega) (Nat.le_refl _);rw[hl,projL,aO];·exact iO.nil _ _
    ·simp
   ·have hd:1≤depG v:=by obtain⟨a,ha⟩:=List.exists_mem_of_ne_nil _ hl;have:=dr ha;omega
    exact((sQ way (by omega) v.l 0 0 (hE0 10)).app ho).mono (by omega) (Nat.le_refl _)
  ·by_cases h11:v.kind=11
   ·obtain⟨k,n,x,s,l⟩:=v;simp only at h11;subst h11;rw[projP];simp only[show((11:Int)=10)=False by simp,show((11:Int)=9)=False by simp,if_false,if_true];have h:=oa way 11 l 0 (hE0 11);split;·exact h.mono (by omega) (Nat.le_refl _)
    ·exact(h.app (iO.one (n:=1) (x:=⟨6,p⟩) (by omega) ⟨by simp,by simp,by simp⟩)).mono (by omega) (Nat.le_refl _)
   ·rw[fa h9 h10 h11];simp only;split;·exact iO.nil _ _
    ·have:=ke way v;exact iO.one (by omega) ⟨by simp,by simp only;omega,by simp only;omega⟩

def cd(p:List GStep):List ah→List ag|[]=>[]|c::l=>(if cH c l then[⟨8,p++[⟨c.at_,true⟩]⟩] else c.nl)++cd p l
theorem jb(p:List GStep): ∀cs,(aU p cs).Perm (cd p cs++(ar cs).flatMap (·.vl))|[]=>by simp[aU,cd,ar]|c::cs=>by have h:=jb p cs;rw[aU,cd,ar];split;(·rw[List.append_assoc];exact h.append_left _);·rw[List.flatMap_cons,List.append_assoc,List.append_assoc];refine List.Perm.append_left _ ?_;refine(h.append_left _).trans ?_;rw[←List.append_assoc,←List.append_assoc];exact List.Perm.append_right _ List.perm_append_comm
theorem ky{α β:Type}{f:α→List β}{a b:List α}(h:a.Perm b):(a.flatMap f).Perm (b.flatMap f):=by
 induction h with|nil=>exact .refl _|cons x _ ih=>rw[List.flatMap_cons,List.flatMap_cons];exact ih.append_left _|swap x y l=>rw[List.flatMap_cons,List.flatMap_cons,List.flatMap_cons,List.flatMap_cons,←List.append_assoc,←List.append_assoc];exact List.Perm.append_right _ List.perm_append_comm|trans _ _ ih1 ih2=>exact ih1.trans ih2
theorem lg(way:Int)(cs:List ah)(p:List GStep):(eB way cs p).2.Perm (cd p cs++(aS way (ar cs)).flatMap (·.vl)++if(aS way (ar cs)).map ah.at_=(ar cs).map ah.at_ then[] else[⟨9,p⟩]):=by
 unfold eB;refine List.Perm.append_right _ ?_;exact(jb p cs).trans ((ky (dA way (ar cs)).symm).append_left _)
section
section
variable {α : Type} [aE α]
def aA(w:World)(base:Nat)(t:TypeId)(v:Value)(l:List α)(S:Nat→Prop):Prop:= ∃F,dt w base t v l F∧ ∀b,b∈F→S b
variable {w w' : World} {base : Nat} {t : TypeId} {v : Value} {l : List α} {S : Nat → Prop}
theorem aA.form(h:aA w base t v l S): ∃A c,v=.slice A l.length c:=h.choose_spec.1.form
theorem aA.aq(h:aA w base t v l S): ∀g,v.ownBlock=some g→base≤g∧g<w.heap.size:=h.choose_spec.1.aq
theorem aA.qE(w:World)(t:TypeId)(base:Nat)(hb:base≤w.heap.size)(S:Nat→Prop):aA (α:=α) (w.alloc (.cells #[] t)) base t (.slice (some ⟨w.heap.size,0,none⟩) 0 0) [] S:=⟨[],⟨[],World.ownsRow_lit w #[] 0 hb (by simp) (by simp),⟨rfl,rfl⟩,by simp⟩,by simp⟩
theorem aA.ak(h:aA w base t v l S)(hb:Below w.heap.size w w')(hS: ∀b,S b→b<w.heap.size):aA w' base t v l S:=let⟨F,h1,h2⟩:=h;⟨F,h1.below (fun b hm=>hS b (h2 b hm)) hb,h2⟩
theorem aA.ss{A:Option Addr}{n c:Nat}(h:aA w base t (.slice A n c) l S)(w':World)(S':Nat→Prop)(hk: ∀b,((Value.slice A n c).ownBlock=some b∨S b)→w'.heap[b]? =w.heap[b]?)(hS: ∀b,((Value.slice A n c).ownBlock=some b∨S b)→S' b):n=l.length∧SS w' S' l A c:=by
 obtain⟨F,h1,h2⟩:=h;obtain⟨hn,F',h3,h4⟩:=h1.zI;have hF: ∀b,b∈F'→(Value.slice A n c).ownBlock=some b∨S b:=by rcases h4 with rfl|⟨g,rfl,rfl,h5,h6,h7⟩;(·simp);·intro b hb;rcases List.mem_cons.1 hb with rfl|hb;(·exact .inl rfl);·exact .inr (h2 b hb)
 exact⟨hn,F',h3.ak fun b hb=>hk b (hF b hb),fun b hb=>hS b (hF b hb)⟩
theorem aA.mono{S':Nat→Prop}(h:aA w base t v l S)(hS: ∀b,S b→S' b):aA w base t v l S':=let⟨F,h1,h2⟩:=h;⟨F,h1,fun b hb=>hS b (h2 b hb)⟩
variable {P : Program} {W : World}
def jn(W:World)(base:Nat)(e:TypeId)(v:Value)(l:List α)(S:Nat→Prop)(v':Value)(w':World):Prop:=aA w' base e v' l S∧Below base W w'∧(v'.ownBlock=v.ownBlock∨v'.ownBlock=some W.heap.size)∧W.grownBy w' v.ownBlock
theorem gf(t ty:TypeId)(base:Nat)(e:TypeId)(z:Value)(bytes:Nat)(ht:P.underlying t=some (.slice e))(hinfo:(P.info? e).map (fun i=>(i.zero,i.size,i.bytes))=some (some z,aE.wd α,bytes))(hzs:z.cells.size=aE.wd α)(hsz:0<aE.wd α)(v:Value)(l:List α)(el:α)(cs:List Value)(ad:Addr)(c:Nat)(S:Nat→Prop)(hown:aA W base e v l S)(hS: ∀b,S b→b<W.heap.size∧v.ownBlock≠some b)(hr:RS W S el cs)(hcells: ∀j u,cs[j]? =some u→W.cell? (ad.add j)=some u)(hbytes:(l.length+1)*bytes≤140737488355328)(h63:l.length+1≤maxLen)(hbW:base≤W.heap.size): ∃v' w',(Builtin.append_ #[t,t] ty #[v,.slice (some ad) 1 c]).run P W=.ok v' w'∧jn W base e v (l++[el]) S v' w':=by
 obtain⟨F',h1',hr2⟩:=hr;have hel:aN W [el] F' cs:=aN.single h1';obtain⟨i,hi,hz,hsize,hby⟩:=info_parts hinfo;obtain⟨F,hC,hlt⟩:=hown;have hgl:=hC.aq;obtain⟨xs,h1,h2,h3⟩:=hC;have hF: ∀g,v.ownBlock=some g→g∉F':=fun g hg hm=>(hS g (hr2 g hm)).2 hg;have hltS: ∀b,b∈F++F'→S b:=fun b hm=>by rcases List.mem_append.1 hm with hm|hm;(·exact hlt b hm);·exact hr2 b hm
 obtain⟨v',w',hrun,h4,h5,_,h6⟩:=run_append_own_at (P:=P) W base t ty e i z (aE.wd α) bytes ht hi hz hsize hby hzs hsz v l.length xs h1 ad 1 c cs hel.len hcells hel.one h63 hbytes hbW;exact⟨v',w',hrun,⟨F++F',dt.grown h2 h3 hel hF (fun b hb=>(hS b (hltS b hb)).1) h4 h5 h6,hltS⟩,bK h5 hbW fun k hk=>(hgl k hk).1,h6,h5⟩
theorem pS(t ty:TypeId)(base:Nat)(e:TypeId)(z:Value)(bytes:Nat)(ht:P.underlying t=some (.slice e))(hinfo:(P.info? e).map (fun i=>(i.zero,i.size,i.bytes))=some (some z,aE.wd α,bytes))(hzs:z.cells.size=aE.wd α)(hsz:0<aE.wd α)(v:Value)(l ys:List α)(A:Option Addr)(c:Nat)(S S0:Nat→Prop)(hown:aA W base e v l S)(hS: ∀b,S b→b<W.heap.size∧v.ownBlock≠some b)(hr:SS W S0 ys A c)(hS0: ∀F xs,aN W ys F xs→(∀b,b∈F→S0 b)→ ∀b,b∈F→S b)(hbytes:(l.length+ys.length)*bytes≤140737488355328)(h63:l.length+ys.length≤maxLen)(hbW:base≤W.heap.size): ∃v' w',(Builtin.append_ #[t,t] ty #[v,.slice A ys.length c]).run P W=.ok v' w'∧jn W base e v (l++ys) S v' w':=by
 have gen: ∀(ad:Addr)(F':List Nat)(news:List Value),aN W ys F' news→(∀b,b∈F'→S b)→(∀j u,news[j]? =some u→W.cell? (ad.add j)=some u)→ ∃v' w',(Builtin.append_ #[t,t] ty #[v,.slice (some ad) ys.length c]).run P W=.ok v' w'∧jn W base e v (l++ys) S v' w':=by intro ad F' news hel hr2 hcells;obtain⟨i,hi,hz,hsize,hby⟩:=info_parts hinfo;obtain⟨F,hC,hlt⟩:=hown;have hgl:=hC.aq;obtain⟨xs,h1,h2,h3⟩:=hC;have hF: ∀g,v.ownBlock=some g→g∉F':=fun g hg hm=>(hS g (hr2 g hm)).2 hg;(have hltS: ∀b,b∈F++F'→S b:=fun b hm=>by rcases List.mem_append.1 hm with hm|hm;(·exact hlt b hm);·exact hr2 b hm);obtain⟨v',w',hrun,h4,h5,_,h6⟩:=run_append_own_at (P:=P) W base t ty e i z (aE.wd α) bytes ht hi hz hsize hby hzs hsz v l.length xs h1 ad ys.length c news hel.len hcells hel.one h63 hbytes hbW;exact⟨v',w',hrun,⟨F++F',dt.grown h2 h3 hel hF (fun b hb=>(hS b (hltS b hb)).1) h4 h5 h6,hltS⟩,bK h5 hbW fun k hk=>(hgl k hk).1,h6,h5⟩
 obtain⟨F0,⟨hl1,hl2,hl3⟩,hr2⟩:=hr;rcases hl3 with⟨rfl,rfl,hn⟩|⟨b,off,F1,news,rfl,rfl,hel,hc⟩;·cases A with|none=>rw[hn rfl];obtain⟨F,hC,hFr⟩:=hown;exact⟨v,W,fJ base t ty e z bytes ht hinfo v l F hC,by rw[List.append_nil];exact⟨F,hC,hFr⟩,Below.refl _ _,.inl rfl,gw _ _⟩|some ad=>exact gen ad [] [] ⟨rfl,rfl⟩ (by simp) (fun j u hj=>by simp at hj)
 ·refine gen ⟨b,off,none⟩ F1 news hel (hS0 F1 news hel fun b hb=>hr2 b (List.mem_cons_of_mem _ hb)) (fun j u hj=> ?_);have e1:(⟨b,off,none⟩:Addr).add j=⟨b,off+j,none⟩:=by unfold Addr.add;split;(·rename_i h;subst h;rfl);·rfl
  rw[e1];exact hc j u hj
end
end
section
section
variable {α : Type} [aE α]
def qz(base:Nat)(w:World)(b:Nat):Prop:=base≤b∧b<w.heap.size
def SB(base:Nat)(w:World)(l:List α)(A:Option Addr)(c:Nat):Prop:=SS w (qz base w) l A c
def RB(base:Nat)(w:World)(a:α)(cs:List Value):Prop:=RS w (qz base w) a cs
def aQ(w:World)(base:Nat)(t:TypeId)(v:Value)(l:List α):Prop:=aA w base t v l (qz base w)
variable {w w' : World} {base base' : Nat} {t : TypeId} {v : Value} {l : List α} {A : Option Addr} {c : Nat} {a : α} {cs : List Value}
theorem SB.sa(h:SB base w l A c):SA w l A c:=let⟨F,h1,h2⟩:=h;⟨F,h1,fun b hb=>(h2 b hb).2⟩
theorem SB.mono(h:SB base w l A c)(hb:base'≤base):SB base' w l A c:=let⟨F,h1,h2⟩:=h;⟨F,h1,fun b hm=>⟨Nat.le_trans hb (h2 b hm).1,(h2 b hm).2⟩⟩
theorem RB.mono(h:RB base w a cs)(hb:base'≤base):RB base' w a cs:=let⟨F,h1,h2⟩:=h;⟨F,h1,fun b hm=>⟨Nat.le_trans hb (h2 b hm).1,(h2 b hm).2⟩⟩
theorem SB.below(h:SB base w l A c)(hb:Below w.heap.size w w'):SB base w' l A c:=SS.ak h (fun b h=>hb.block b h.2) (fun b h=>⟨h.1,Nat.lt_of_lt_of_le h.2 hb.size⟩)
theorem RB.below(h:RB base w a cs)(hb:Below w.heap.size w w'):RB base w' a cs:=RS.ak h (fun b h=>hb.block b h.2) (fun b h=>⟨h.1,Nat.lt_of_lt_of_le h.2 hb.size⟩)
theorem SF.sb(h:SF base w l A c):SB base w l A c:=let⟨F,h1,h2⟩:=h;⟨F,h1,fun b hb=>⟨(h2.2 b hb).1,(h2.2 b hb).2.lt⟩⟩
theorem SB.nil(base:Nat)(w:World):SB (α:=α) base w [] none 0:=⟨[],⟨by simp,by simp,.inl ⟨rfl,rfl,fun _=>rfl⟩⟩,by simp⟩
theorem SB.set(h:SB base w l A c){g:Nat}(hg:g<base)(p:Addr)(hp:p.block=g)(u:Value):SB base (w.setCell p u) l A c:=by
 refine SS.ak h (fun b hb=>Below.heap_setCell w p u b (by have:=hb.1;omega)) (fun b hb=>⟨hb.1,by simpa using hb.2⟩)
theorem aQ.form(h:aQ w base t v l): ∃A c,v=.slice A l.length c:=aA.form h
theorem aQ.aq(h:aQ w base t v l): ∀g,v.ownBlock=some g→base≤g∧g<w.heap.size:=aA.aq h
theorem aQ.below(h:aQ w base t v l)(hb:Below w.heap.size w w'):aQ w' base t v l:=aA.mono (aA.ak h hb fun b hb=>hb.2) fun b h=>⟨h.1,Nat.lt_of_lt_of_le h.2 hb.size⟩
theorem aQ.qE(w:World)(t:TypeId)(base:Nat)(hb:base≤w.heap.size):aQ (α:=α) (w.alloc (.cells #[] t)) base t (.slice (some ⟨w.heap.size,0,none⟩) 0 0) []:=aA.qE w t base hb _
theorem ay.cK(h:ay w base t v l):aQ w base t v l:=let⟨F,h1,h2⟩:=h;⟨F,h1,fun b hb=>⟨(h2.2 b hb).1,(h2.2 b hb).2.lt⟩⟩
theorem aQ.nX(w:World)(base:Nat)(t:TypeId):aQ (α:=α) w base t (.slice none 0 0) []:=(ay.nX w base t).cK
theorem aQ.sb{A:Option Addr}{n c:Nat}(h:aQ w base t (.slice A n c) l):n=l.length∧SB base w l A c:=by
 obtain⟨h1,h2⟩:=aA.ss h w (qz base w) (fun _ _=>rfl) (fun b hb=>by rcases hb with hb|hb;(·exact aQ.aq h b hb);·exact hb);exact⟨h1,h2⟩
theorem aQ.set(h:aQ w base t v l){p:Addr}(hp:p.block<base)(u:Value):aQ (w.setCell p u) base t v l:=by
 obtain⟨F,h1,h2⟩:=h;have hlt:=h1.aq;obtain⟨xs,h3,h4,h5⟩:=h1;refine⟨F,⟨xs,?_,h4.ak fun b hb=>Below.heap_setCell w p u b (fun e=>by have:=(h2 b hb).1;omega),h5⟩,fun b hb=>⟨(h2 b hb).1,by simpa[World.setCell] using(h2 b hb).2⟩⟩;obtain⟨h6,h7⟩:=h3;refine⟨h6,?_⟩;rcases h7 with h7|⟨g,cap,cur,rfl,hb,hh,h8,h9,h10,h11⟩;·exact .inl h7
 ·exact .inr ⟨g,cap,cur,rfl,hb,(Below.heap_setCell w p u g (fun e=>by omega)).trans hh,h8,h9,h10,h11⟩
variable {P : Program} {W : World}
def zz(W:World)(base:Nat)(e:TypeId)(v:Value)(l:List α)(v':Value)(w':World):Prop:=aQ w' base e v' l∧Below base W w'∧(v'.ownBlock=v.ownBlock∨v'.ownBlock=some W.heap.size)∧W.grownBy w' v.ownBlock
theorem jn.zV{S:Nat→Prop}{v':Value}(h:jn W base t v l S v' w')(hS: ∀b,S b→qz base W b):zz W base t v l v' w':=⟨aA.mono h.1 fun b hb=>⟨(hS b hb).1,Nat.lt_of_lt_of_le (hS b hb).2 h.2.1.size⟩,h.2⟩
theorem aQ.apart(h:aQ w base t v l):aA w base t v l (fun b=>qz base w b∧v.ownBlock≠some b):=by
 obtain⟨F,h1,h2⟩:=h;obtain⟨xs,h3,h4,h5⟩:=h1;exact⟨F,⟨xs,h3,h4,h5⟩,fun b hb=>⟨h2 b hb,fun e=>h5 b e hb⟩⟩
theorem tH(t ty:TypeId)(base:Nat)(e:TypeId)(z:Value)(bytes:Nat)(ht:P.underlying t=some (.slice e))(hinfo:(P.info? e).map (fun i=>(i.zero,i.size,i.bytes))=some (some z,aE.wd α,bytes))(hzs:z.cells.size=aE.wd α)(hsz:0<aE.wd α)(v:Value)(l:List α)(el:α)(cs:List Value)(ad:Addr)(c:Nat)(hown:aQ W base e v l)(hr:RS W (fun b=>qz base W b∧v.ownBlock≠some b) el cs)(hcells: ∀j u,cs[j]? =some u→W.cell? (ad.add j)=some u)(hbytes:(l.length+1)*bytes≤140737488355328)(h63:l.length+1≤maxLen)(hbW:base≤W.heap.size): ∃v' w',(Builtin.append_ #[t,t] ty #[v,.slice (some ad) 1 c]).run P W=.ok v' w'∧zz W base e v (l++[el]) v' w':=by
 obtain⟨v',w',h1,h2⟩:=gf t ty base e z bytes ht hinfo hzs hsz v l el cs ad c _ hown.apart (fun b hb=>⟨hb.1.2,hb.2⟩) hr hcells hbytes h63 hbW;exact⟨v',w',h1,h2.zV fun b hb=>hb.1⟩
end
def eL(v:aa)(A:Option Addr)(c:Nat):Value:=.agg #[.int .i64 v.kind,.int .i64 v.n,.int .i64 v.x,.string v.s,.slice A v.l.length c]
def xN(w:World)(v:aa)(e:Ending)(w':World):Prop:= ∃A c,e=.returned (eL v A c)∧SB w.heap.size w' v.l A c∧Below w.heap.size w w'
def ix(w:World)(v:aa)(u:Value)(e:Ending)(w':World):Prop:= ∃A c,e=.returned (.tuple #[eL v A c,u])∧SB w.heap.size w' v.l A c∧Below w.heap.size w w'
def ye{α:Type}[aE α](w:World)(l:List α)(e:Ending)(w':World):Prop:= ∃A c,e=.returned (.slice A l.length c)∧SB w.heap.size w' l A c∧Below w.heap.size w w'
end
section
theorem qA{α:Type}(lt:α→α→Bool)(q:List α)(x y:α):ca lt (q++[y]) x=if lt x y then ca lt q x++[y] else q++[y]++[x]:=by
 unfold ca;rw[List.reverse_append,List.reverse_singleton,List.singleton_append,cI];split;·rw[List.reverse_cons]
 ·simp
theorem cP{α:Type}(lt:α→α→Bool)(x:α): ∀(n:Nat)(q:List α)(m:Nat),q.length=n→m≤q.length→(∀i(h:i<q.length),m≤i→lt x q[i]=true)→(∀h:m-1<q.length,0<m→lt x q[m-1]=false)→ca lt q x=q.take m++[x]++q.drop m|0,q,m,hn,hm,_,_=>by have:q=[]:=List.length_eq_zero_iff.1 hn;subst this;simp[ca,cI]|n+1,q,m,hn,hm,h1,h2=>by(have hne:q≠[]:=fun e=>by rw[e] at hn;simp at hn);obtain⟨q',y,rfl⟩: ∃q' y,q=q'++[y]:=⟨q.dropLast,q.getLast hne,(List.dropLast_concat_getLast hne).symm⟩;(have hl:(q'++[y]).length=q'.length+1:=by simp);rw[qA];by_cases hm':m=q'.length+1;(·have:=h2 (by omega) (by omega);rw[List.getElem_append_right (by omega)] at this;simp at this;rw[if_neg (by rw[this];simp),List.take_of_length_le (by omega),List.drop_of_length_le (by omega)];simp);·have hy:=h1 q'.length (by omega) (by omega);rw[List.getElem_append_right (by omega)] at hy;simp at hy;rw[if_pos hy];have ih:=cP lt x n q' m (by omega) (by omega) (fun i h hi=>by have:=h1 i (by omega) hi;rwa[List.getElem_append_left h] at this) (fun h hm0=>by have:=h2 (by omega) hm0;rwa[List.getElem_append_left h] at this);rw[ih,List.take_append_of_le_length (by omega),List.drop_append_of_le_length (by omega)];simp
theorem kB(a b:List ah):al (a++b)=al a++al b:=by
 unfold al;rw[List.flatMap_append]
theorem nI: ∀(cs:List ah)(m:Nat),al (cs.take m)=(al cs).take (2*m)|[],m=>by simp[al]|c::cs,0=>by simp[al]|c::cs,m+1=>by rw[List.take_succ_cons,bf,bf,nI cs m,show 2*(m+1)=2*m+1+1 by omega,List.take_succ_cons,List.take_succ_cons]
theorem oz: ∀(cs:List ah)(m:Nat),al (cs.drop m)=(al cs).drop (2*m)|[],m=>by simp[al]|c::cs,0=>by simp|c::cs,m+1=>by rw[List.drop_succ_cons,bf,oz cs m,show 2*(m+1)=2*m+1+1 by omega,List.drop_succ_cons,List.drop_succ_cons]
theorem kf: ∀(cs:List ah)(m:Nat)(h:m<cs.length),(al cs)[2*m]'(by rw[dp];omega)=cs[m].name|c::cs,0,h=>by simp[bf]|c::cs,m+1,h=>by have:=kf cs m (by simpa using h);simp only[bf,show 2*(m+1)=2*m+1+1 by omega,List.getElem_cons_succ];exact this
theorem ql: ∀(cs:List ah)(m:Nat)(h:m<cs.length),(al cs)[2*m+1]'(by rw[dp];omega)=cs[m].val|c::cs,0,h=>by simp[bf]|c::cs,m+1,h=>by have:=ql cs m (by simpa using h);simp only[bf,show 2*(m+1)+1=2*m+1+1+1 by omega,List.getElem_cons_succ];exact this
theorem fq{α:Type}(lt:α→α→Bool): ∀(xs q:List α)(x:α),ao lt q (xs++[x])=ca lt (ao lt q xs) x|[],q,x=>by simp[ao]|y::xs,q,x=>by rw[List.cons_append,ao,ao,fq lt xs]
theorem eZ{α:Type}(lt:α→α→Bool)(xs:List α):(ao lt [] xs).length=xs.length:=by
 have:=(bF lt xs []).length_eq;simpa using this
def QB(base X:Nat)(b:Nat):Prop:=base≤b∧b≠X
section
variable {α : Type} [aE α] {P : Program} {W : World}
def ch(Q:Nat→Prop)(w:World)(base:Nat)(t:TypeId)(v:Value)(l:List α):Prop:=aA w base t v l (fun b=>Q b∧b<w.heap.size)
def xZ(Q:Nat→Prop)(N:Nat)(W:World)(base:Nat)(e:TypeId)(v:Value)(l:List α)(v':Value)(w':World):Prop:=ch Q w' base e v' l∧Below N W w'∧(∀g,v'.ownBlock=some g→N≤g)∧W.grownBy w' v.ownBlock∧(v'.ownBlock=v.ownBlock∨v'.ownBlock=some W.heap.size)
theorem ch.below{Q:Nat→Prop}{w w':World}{base:Nat}{t:TypeId}{v:Value}{l:List α}(h:ch Q w base t v l)(hb:Below w.heap.size w w'):ch Q w' base t v l:=aA.mono (aA.ak h hb fun b hb=>hb.2) fun b h=>⟨h.1,Nat.lt_of_lt_of_le h.2 hb.size⟩
theorem ch.ss{Q:Nat→Prop}{w:World}{base:Nat}{t:TypeId}{g n c:Nat}{l:List α}(h:ch Q w base t (.slice (some ⟨g,0,none⟩) n c) l)(hg:Q g):n=l.length∧SS w (fun b=>Q b∧b<w.heap.size) l (some ⟨g,0,none⟩) c:=by
 obtain⟨h1,h2⟩:=aA.ss h w (fun b=>Q b∧b<w.heap.size) (fun _ _=>rfl) (fun b hb=>by rcases hb with hb|hb;(·simp only[Value.ownBlock,Option.some.injEq] at hb;subst hb;exact⟨hg,(aA.aq h g rfl).2⟩);·exact hb);exact⟨h1,h2⟩
theorem ir(Q:Nat→Prop)(N:Nat)(t ty:TypeId)(base:Nat)(e:TypeId)(z:Value)(bytes:Nat)(ht:P.underlying t=some (.slice e))(hinfo:(P.info? e).map (fun i=>(i.zero,i.size,i.bytes))=some (some z,aE.wd α,bytes))(hzs:z.cells.size=aE.wd α)(hsz:0<aE.wd α)(v:Value)(l ys:List α)(ad:Addr)(c:Nat)(F':List Nat)(news:List Value)(hN:N≤W.heap.size)(hbN:base≤N)(hown:ch Q W base e v l)(hv: ∀g,v.ownBlock=some g→N≤g)(hel:aN W ys F' news)(hF': ∀b,b∈F'→Q b∧b<N)(hcells: ∀j u,news[j]? =some u→W.cell? (ad.add j)=some u)(hbytes:(l.length+ys.length)*bytes≤140737488355328)(h63:l.length+ys.length≤maxLen): ∃v' w',(Builtin.append_ #[t,t] ty #[v,.slice (some ad) ys.length c]).run P W=.ok v' w'∧xZ Q N W base e v (l++ys) v' w':=by
 obtain⟨i,hi,hz,hsize,hby⟩:=info_parts hinfo;obtain⟨F,hC,hlt⟩:=hown;have hgl:=hC.aq;obtain⟨xs,h1,h2,h3⟩:=hC;have hF: ∀g,v.ownBlock=some g→g∉F':=fun g hg hm=>by have:=(hF' g hm).2;have:=hv g hg;omega
 have hnew: ∀b,b∈F++F'→Q b∧b<W.heap.size:=fun b hm=>by rcases List.mem_append.1 hm with hm|hm;(·exact hlt b hm);·exact⟨(hF' b hm).1,Nat.lt_of_lt_of_le (hF' b hm).2 hN⟩
 obtain⟨v',w',hrun,h4,h5,_,h6⟩:=run_append_own_at (P:=P) W base t ty e i z (aE.wd α) bytes ht hi hz hsize hby hzs hsz v l.length xs h1 ad ys.length c news hel.len hcells hel.one h63 hbytes (Nat.le_trans hbN hN);refine⟨v',w',hrun,⟨F++F',dt.grown h2 h3 hel hF (fun b hb=>(hnew b hb).2) h4 h5 h6,fun b hb=>⟨(hnew b hb).1,Nat.lt_of_lt_of_le (hnew b hb).2 h5.size⟩⟩,bK h5 hN fun k hk=>hv k hk,fun g hg=> ?_,h5,h6⟩;rcases h6 with e|e;·exact hv g (e▸hg)
 ·rw[e] at hg;injection hg with hg;omega
theorem eu(Q:Nat→Prop)(N:Nat)(t ty:TypeId)(base:Nat)(e:TypeId)(z:Value)(bytes:Nat)(ht:P.underlying t=some (.slice e))(hinfo:(P.info? e).map (fun i=>(i.zero,i.size,i.bytes))=some (some z,aE.wd α,bytes))(hzs:z.cells.size=aE.wd α)(hsz:0<aE.wd α)(v:Value)(l ys:List α)(A:Option Addr)(n c:Nat)(hnl:n=ys.length)(hN:N≤W.heap.size)(hbN:base≤N)(hown:ch Q W base e v l)(hv: ∀g,v.ownBlock=some g→N≤g)(hr:SS W (fun b=>Q b∧b<N) ys A c)(hbytes:(l.length+ys.length)*bytes≤140737488355328)(h63:l.length+ys.length≤maxLen): ∃v' w',(Builtin.append_ #[t,t] ty #[v,.slice A n c]).run P W=.ok v' w'∧xZ Q N W base e v (l++ys) v' w':=by
 subst hnl;obtain⟨F0,⟨hl1,hl2,hl3⟩,hr2⟩:=hr;rcases hl3 with⟨rfl,rfl,hn⟩|⟨b,off,F1,news,rfl,rfl,hel,hc⟩;·cases A with|none=>rw[hn rfl];obtain⟨F,hC,hFr⟩:=hown;exact⟨v,W,fJ base t ty e z bytes ht hinfo v l F hC,by rw[List.append_nil];exact⟨F,hC,hFr⟩,Below.refl _ _,hv,gw _ _,.inl rfl⟩|some ad=>exact ir Q N t ty base e z bytes ht hinfo hzs hsz v l [] ad c [] [] hN hbN hown hv ⟨rfl,rfl⟩ (by simp) (fun j u hj=>by simp at hj) hbytes h63
 ·refine ir Q N t ty base e z bytes ht hinfo hzs hsz v l ys ⟨b,off,none⟩ c F1 news hN hbN hown hv hel (fun b hb=>hr2 b (List.mem_cons_of_mem _ hb)) (fun j u hj=> ?_) hbytes h63;have e1:(⟨b,off,none⟩:Addr).add j=⟨b,off+j,none⟩:=by unfold Addr.add;split;(·rename_i h;subst h;rfl);·rfl
  rw[e1];exact hc j u hj
theorem ox(Q:Nat→Prop)(N:Nat)(t ty:TypeId)(base:Nat)(e:TypeId)(z:Value)(bytes:Nat)(ht:P.underlying t=some (.slice e))(hinfo:(P.info? e).map (fun i=>(i.zero,i.size,i.bytes))=some (some z,aE.wd α,bytes))(hzs:z.cells.size=aE.wd α)(hsz:0<aE.wd α)(v:Value)(l:List α)(x y:α)(cx cy:List Value)(ad:Addr)(c:Nat)(hN:N≤W.heap.size)(hbN:base≤N)(hown:ch Q W base e v l)(hv: ∀g,v.ownBlock=some g→N≤g)(hx:RS W (fun b=>Q b∧b<N) x cx)(hy:RS W (fun b=>Q b∧b<N) y cy)(hcells: ∀j u,(cx++cy)[j]? =some u→W.cell? (ad.add j)=some u)(hbytes:(l.length+2)*bytes≤140737488355328)(h63:l.length+2≤maxLen): ∃v' w',(Builtin.append_ #[t,t] ty #[v,.slice (some ad) 2 c]).run P W=.ok v' w'∧xZ Q N W base e v (l++[x,y]) v' w':=by
 obtain⟨FX,hX,hFX⟩:=hx;obtain⟨FY,hY,hFY⟩:=hy;refine ir Q N t ty base e z bytes ht hinfo hzs hsz v l [x,y] ad c (FX++FY) (cx++cy) hN hbN hown hv ⟨FX,FY,cx,cy,rfl,rfl,hX,⟨FY,[],cy,[],by simp,by simp,hY,⟨rfl,rfl⟩⟩⟩ (fun b hb=> ?_) hcells hbytes h63;rcases List.mem_append.1 hb with h|h;·exact hFX b h
 ·exact hFY b h
theorem nB(Q:Nat→Prop)(N:Nat)(t ty:TypeId)(base:Nat)(e:TypeId)(z:Value)(bytes:Nat)(ht:P.underlying t=some (.slice e))(hinfo:(P.info? e).map (fun i=>(i.zero,i.size,i.bytes))=some (some z,aE.wd α,bytes))(hzs:z.cells.size=aE.wd α)(hsz:0<aE.wd α)(v:Value)(l:List α)(x:α)(cx:List Value)(ad:Addr)(c:Nat)(hN:N≤W.heap.size)(hbN:base≤N)(hown:ch Q W base e v l)(hv: ∀g,v.ownBlock=some g→N≤g)(hx:RS W (fun b=>Q b∧b<N) x cx)(hcells: ∀j u,cx[j]? =some u→W.cell? (ad.add j)=some u)(hbytes:(l.length+1)*bytes≤140737488355328)(h63:l.length+1≤maxLen): ∃v' w',(Builtin.append_ #[t,t] ty #[v,.slice (some ad) 1 c]).run P W=.ok v' w'∧xZ Q N W base e v (l++[x]) v' w':=by
 obtain⟨FX,hX,hFX⟩:=hx;exact ir Q N t ty base e z bytes ht hinfo hzs hsz v l [x] ad c FX cx hN hbN hown hv (aN.single hX) hFX hcells hbytes h63
theorem ch.nw{Q:Nat→Prop}{w:World}{base:Nat}{t:TypeId}{v:Value}{l:List α}(h:ch Q w base t v l)(hl:0<l.length): ∃g c,v=.slice (some ⟨g,0,none⟩) l.length c:=by
 obtain⟨F,⟨xs,h1,h2,h3⟩,_⟩:=h;rcases h1.2 with⟨hv,hn⟩|⟨g,cap,cur,hv,_⟩;·omega
 ·exact⟨g,cap,hv⟩
theorem xX.take{w:World}{S:Nat→Prop}{l:List α}{A:Option Addr}{c:Nat}(h:SS w S l A c)(k:Nat)(hk:k≤l.length):SS w S (l.take k) A c:=by
 obtain⟨F,⟨h1,h2,h3⟩,hF⟩:=h;rcases h3 with⟨rfl,rfl,hz⟩|⟨b,off,F',xs,hA,rfl,he,hc⟩;·exact⟨[],⟨by simp,h2,.inl ⟨by simp,rfl,hz⟩⟩,by simp⟩
 ·rw[←List.take_append_drop k l] at he;obtain⟨F1,F2,x1,x2,rfl,rfl,he1,_⟩:=he.split;refine⟨b::F1,⟨by simp;omega,h2,.inr ⟨b,off,F1,x1,hA,rfl,he1,fun j v hj=> ?_⟩⟩,fun x hx=>hF x ?_⟩;·exact hc j v (by rw[List.getElem?_append_left (List.getElem?_eq_some_iff.1 hj).1];exact hj)
  ·simp only[List.mem_cons,List.mem_append] at hx ⊢;rcases hx with rfl|hx;·exact .inl rfl
   ·exact .inr (.inl hx)
theorem xX.drop{w:World}{S:Nat→Prop}{l:List α}{b off c:Nat}(h:SS w S l (some ⟨b,off,none⟩) c)(k:Nat)(hk:k≤l.length):SS w S (l.drop k) (some ⟨b,off+k*aE.wd α,none⟩) (c-k):=by
 obtain⟨F,⟨h1,h2,h3⟩,hF⟩:=h;rcases h3 with⟨rfl,rfl,hz⟩|⟨b',off',F',xs,hA,rfl,he,hc⟩;·exact⟨[],⟨by simp,by omega,.inl ⟨by simp,rfl,fun h=>by cases h⟩⟩,by simp⟩
 ·injection hA with hA;injection hA with e1 e2;subst e1 e2;rw[←List.take_append_drop k l] at he;obtain⟨F1,F2,x1,x2,rfl,rfl,he1,he2⟩:=he.split;have hx1:x1.length=k*aE.wd α:=by rw[he1.len,List.length_take,Nat.min_eq_left hk]
  refine⟨b::F2,⟨by simp;omega,by omega,.inr ⟨b,_,F2,x2,rfl,rfl,he2,fun j v hj=> ?_⟩⟩,fun x hx=>hF x ?_⟩;·have:=hc (k*aE.wd α+j) v (by rw[List.getElem?_append_right (by omega),hx1,Nat.add_sub_cancel_left];exact hj);rwa[←Nat.add_assoc] at this
  ·simp only[List.mem_cons,List.mem_append] at hx ⊢;rcases hx with rfl|hx;·exact .inl rfl
   ·exact .inr (.inr hx)
theorem xX.wh{w:World}{S:Nat→Prop}{l:List α}{b off c:Nat}(h:SS w S l (some ⟨b,off,none⟩) c)(k:Nat)(hk:k≤l.length):SS w S (l.drop k) (if c=k then some ⟨b,off,none⟩ else some ⟨b,off+k*aE.wd α,none⟩) (c-k):=by
 by_cases e:c=k;·rw[if_pos e];obtain⟨F,⟨h1,h2,_⟩,hF⟩:=h;have hl:l.drop k=[]:=List.drop_eq_nil_of_le (by omega);rw[hl];exact⟨[],⟨by simp,by omega,.inl ⟨rfl,rfl,fun h=>by cases h⟩⟩,by simp⟩
 ·rw[if_neg e];exact xX.drop h k hk
theorem nz{w w':World}{t t0:TypeId}{row:Option Nat}{cs0 cs:Array Value}(hg:((w.alloc (.cells cs0 t0)).alloc (.cells cs t)).grownBy w' row):(∀g,g=w.heap.size→row≠some g→aj w' g t0 cs0)∧(∀g,g=w.heap.size+1→row≠some g→aj w' g t cs):=⟨fun g e h=>by subst e;exact aj.grown ((aj.new w t0 cs0).alloc _) hg h,fun g e h=>aj.grown (aj.at (by simp;exact e)) hg h⟩
theorem fG{w w':World}{t t0:TypeId}{row:Option Nat}{cs0 cs:Array Value}(hg:((w.alloc (.cells cs0 t0)).alloc (.cells cs t)).drew.grownBy w' row):(∀g,g=w.heap.size→row≠some g→aj w' g t0 cs0)∧(∀g,g=w.heap.size+1→row≠some g→aj w' g t cs):=⟨fun g e h=>by subst e;exact aj.grown (aj.drew ((aj.new w t0 cs0).alloc _)) hg h,fun g e h=>aj.grown (aj.drew (aj.at (by simp;exact e))) hg h⟩
theorem aj.cm{w:World}{g:Nat}{t:TypeId}{cs:Array Value}(h:aj w g t cs): ∀j u,cs.toList[j]? =some u→w.cell? ((⟨g,0,none⟩:Addr).add j)=some u:=by
 intro j u hj;have e1:(⟨g,0,none⟩:Addr).add j=⟨g,j,none⟩:=by unfold Addr.add;split;(·rename_i h;subst h;rfl);·simp
 rw[e1,h.cell];rw[←Array.getElem?_toList];exact hj
section
variable {α : Type} [aE α]
theorem ch.gO{Q:Nat→Prop}(w:World)(t:TypeId)(base g:Nat)(hg:g=w.heap.size)(hb:base≤w.heap.size):ch (α:=α) Q (w.alloc (.cells #[] t)) base t (.slice (some ⟨g,0,none⟩) 0 0) []:=hg▸aA.qE w t base hb _
theorem ch.mz{Q:Nat→Prop}(w:World)(t:TypeId)(base g:Nat)(hg:g=w.heap.size)(hb:base≤w.heap.size):ch (α:=α) Q (w.alloc (.cells #[] t)).drew base t (.slice (some ⟨g,0,none⟩) 0 0) []:=(ch.gO w t base g hg hb).below (ae _).drew
theorem ch.va{Q:Nat→Prop}(w:World)(t:TypeId)(base g:Nat)(o:Obj)(hg:g=w.heap.size)(hb:base≤w.heap.size):ch (α:=α) Q ((w.alloc (.cells #[] t)).alloc o) base t (.slice (some ⟨g,0,none⟩) 0 0) []:=(ch.gO w t base g hg hb).below (ab (ae _) _)
theorem ch.q9{Q:Nat→Prop}(w:World)(t:TypeId)(base g:Nat)(o:Obj)(hg:g=w.heap.size)(hb:base≤w.heap.size):ch (α:=α) Q ((w.alloc (.cells #[] t)).alloc o).drew base t (.slice (some ⟨g,0,none⟩) 0 0) []:=(ch.gO w t base g hg hb).below (ab (ae _) _).drew
end
end
end
end Go.Proofs.YtodpdjehjllhdaaGreatDoor
