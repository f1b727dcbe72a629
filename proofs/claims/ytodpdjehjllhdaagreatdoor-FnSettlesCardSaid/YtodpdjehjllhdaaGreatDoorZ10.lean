/- Part of a proof: contracts and plain laws. -/
import Derived.Test.YtodpdjehjllhdaaGreatDoorZ03
set_option linter.unusedVariables false
set_option maxRecDepth 100000
set_option maxHeartbeats 20000000
namespace Go.Proofs.YtodpdjehjllhdaaGreatDoor
open Go.RowKit
section
section
variable {α : Type} [aG α]
def aB(w:World)(base:Nat)(t:TypeId)(v:Value)(l:List α)(S:Nat→Prop):Prop:= ∃F,cY w base t v l F∧ ∀b,b∈F→S b
variable {w w' : World} {base : Nat} {t : TypeId} {v : Value} {l : List α} {S : Nat → Prop}
theorem aB.form(h:aB w base t v l S): ∃A c,v=.slice A l.length c:=h.choose_spec.1.form
theorem aB.ar(h:aB w base t v l S): ∀g,v.ownBlock=some g→base≤g∧g<w.heap.size:=h.choose_spec.1.ar
theorem aB.su(w:World)(t:TypeId)(base:Nat)(hb:base≤w.heap.size)(S:Nat→Prop):aB (α:=α) (w.alloc (.cells #[] t)) base t (.slice (some ⟨w.heap.size,0,none⟩) 0 0) [] S:=⟨[],⟨[],World.ownsRow_lit w #[] 0 hb (by simp) (by simp),⟨rfl,rfl⟩,by simp⟩,by simp⟩
theorem aB.an(h:aB w base t v l S)(hb:Below w.heap.size w w')(hS: ∀b,S b→b<w.heap.size):aB w' base t v l S:=let⟨F,h1,h2⟩:=h;⟨F,h1.below (fun b hm=>hS b (h2 b hm)) hb,h2⟩
theorem aB.ss{A:Option Addr}{n c:Nat}(h:aB w base t (.slice A n c) l S)(w':World)(S':Nat→Prop)(hk: ∀b,((Value.slice A n c).ownBlock=some b∨S b)→w'.heap[b]? =w.heap[b]?)(hS: ∀b,((Value.slice A n c).ownBlock=some b∨S b)→S' b):n=l.length∧SS w' S' l A c:=by
 obtain⟨F,h1,h2⟩:=h;obtain⟨hn,F',h3,h4⟩:=h1.xL;have hF: ∀b,b∈F'→(Value.slice A n c).ownBlock=some b∨S b:=by rcases h4 with rfl|⟨g,rfl,rfl,h5,h6,h7⟩;(·simp);·intro b hb;rcases List.mem_cons.1 hb with rfl|hb;(·exact .inl rfl);·exact .inr (h2 b hb)
 exact⟨hn,F',h3.an fun b hb=>hk b (hF b hb),fun b hb=>hS b (hF b hb)⟩
theorem aB.mono{S':Nat→Prop}(h:aB w base t v l S)(hS: ∀b,S b→S' b):aB w base t v l S':=let⟨F,h1,h2⟩:=h;⟨F,h1,fun b hb=>hS b (h2 b hb)⟩
variable {P : Program} {W : World}
def ic(W:World)(base:Nat)(e:TypeId)(v:Value)(l:List α)(S:Nat→Prop)(v':Value)(w':World):Prop:=aB w' base e v' l S∧Below base W w'∧(v'.ownBlock=v.ownBlock∨v'.ownBlock=some W.heap.size)∧W.grownBy w' v.ownBlock
theorem jq(t ty:TypeId)(base:Nat)(e:TypeId)(z:Value)(bytes:Nat)(ht:P.underlying t=some (.slice e))(hinfo:(P.info? e).map (fun i=>(i.zero,i.size,i.bytes))=some (some z,aG.wd α,bytes))(hzs:z.cells.size=aG.wd α)(hsz:0<aG.wd α)(v:Value)(l:List α)(el:α)(cs:List Value)(ad:Addr)(c:Nat)(S:Nat→Prop)(hown:aB W base e v l S)(hS: ∀b,S b→b<W.heap.size∧v.ownBlock≠some b)(hr:RS W S el cs)(hcells: ∀j u,cs[j]? =some u→W.cell? (ad.add j)=some u)(hbytes:(l.length+1)*bytes≤140737488355328)(h63:l.length+1≤maxLen)(hbW:base≤W.heap.size): ∃v' w',(Builtin.append_ #[t,t] ty #[v,.slice (some ad) 1 c]).run P W=.ok v' w'∧ic W base e v (l++[el]) S v' w':=by
 obtain⟨F',h1',hr2⟩:=hr;have hel:aH W [el] F' cs:=aH.single h1';obtain⟨i,hi,hz,hsize,hby⟩:=info_parts hinfo;obtain⟨F,hC,hlt⟩:=hown;have hgl:=hC.ar;obtain⟨xs,h1,h2,h3⟩:=hC;have hF: ∀g,v.ownBlock=some g→g∉F':=fun g hg hm=>(hS g (hr2 g hm)).2 hg;have hltS: ∀b,b∈F++F'→S b:=fun b hm=>by rcases List.mem_append.1 hm with hm|hm;(·exact hlt b hm);·exact hr2 b hm
 obtain⟨v',w',hrun,h4,h5,_,h6⟩:=run_append_own_at (P:=P) W base t ty e i z (aG.wd α) bytes ht hi hz hsize hby hzs hsz v l.length xs h1 ad 1 c cs hel.len hcells hel.one h63 hbytes hbW;exact⟨v',w',hrun,⟨F++F',cY.grown h2 h3 hel hF (fun b hb=>(hS b (hltS b hb)).1) h4 h5 h6,hltS⟩,bR h5 hbW fun k hk=>(hgl k hk).1,h6,h5⟩
theorem oj(t ty:TypeId)(base:Nat)(e:TypeId)(z:Value)(bytes:Nat)(ht:P.underlying t=some (.slice e))(hinfo:(P.info? e).map (fun i=>(i.zero,i.size,i.bytes))=some (some z,aG.wd α,bytes))(hzs:z.cells.size=aG.wd α)(hsz:0<aG.wd α)(v:Value)(l ys:List α)(A:Option Addr)(c:Nat)(S S0:Nat→Prop)(hown:aB W base e v l S)(hS: ∀b,S b→b<W.heap.size∧v.ownBlock≠some b)(hr:SS W S0 ys A c)(hS0: ∀F xs,aH W ys F xs→(∀b,b∈F→S0 b)→ ∀b,b∈F→S b)(hbytes:(l.length+ys.length)*bytes≤140737488355328)(h63:l.length+ys.length≤maxLen)(hbW:base≤W.heap.size): ∃v' w',(Builtin.append_ #[t,t] ty #[v,.slice A ys.length c]).run P W=.ok v' w'∧ic W base e v (l++ys) S v' w':=by
 have gen: ∀(ad:Addr)(F':List Nat)(news:List Value),aH W ys F' news→(∀b,b∈F'→S b)→(∀j u,news[j]? =some u→W.cell? (ad.add j)=some u)→ ∃v' w',(Builtin.append_ #[t,t] ty #[v,.slice (some ad) ys.length c]).run P W=.ok v' w'∧ic W base e v (l++ys) S v' w':=by intro ad F' news hel hr2 hcells;obtain⟨i,hi,hz,hsize,hby⟩:=info_parts hinfo;obtain⟨F,hC,hlt⟩:=hown;have hgl:=hC.ar;obtain⟨xs,h1,h2,h3⟩:=hC;have hF: ∀g,v.ownBlock=some g→g∉F':=fun g hg hm=>(hS g (hr2 g hm)).2 hg;(have hltS: ∀b,b∈F++F'→S b:=fun b hm=>by rcases List.mem_append.1 hm with hm|hm;(·exact hlt b hm);·exact hr2 b hm);obtain⟨v',w',hrun,h4,h5,_,h6⟩:=run_append_own_at (P:=P) W base t ty e i z (aG.wd α) bytes ht hi hz hsize hby hzs hsz v l.length xs h1 ad ys.length c news hel.len hcells hel.one h63 hbytes hbW;exact⟨v',w',hrun,⟨F++F',cY.grown h2 h3 hel hF (fun b hb=>(hS b (hltS b hb)).1) h4 h5 h6,hltS⟩,bR h5 hbW fun k hk=>(hgl k hk).1,h6,h5⟩
 obtain⟨F0,⟨hl1,hl2,hl3⟩,hr2⟩:=hr;rcases hl3 with⟨rfl,rfl,hn⟩|⟨b,off,F1,news,rfl,rfl,hel,hc⟩;·cases A with|none=>rw[hn rfl];obtain⟨F,hC,hFr⟩:=hown;exact⟨v,W,gv base t ty e z bytes ht hinfo v l F hC,by rw[List.append_nil];exact⟨F,hC,hFr⟩,Below.refl _ _,.inl rfl,ix _ _⟩|some ad=>exact gen ad [] [] ⟨rfl,rfl⟩ (by simp) (fun j u hj=>by simp at hj)
 ·refine gen ⟨b,off,none⟩ F1 news hel (hS0 F1 news hel fun b hb=>hr2 b (List.mem_cons_of_mem _ hb)) (fun j u hj=> ?_);have e1:(⟨b,off,none⟩:Addr).add j=⟨b,off+j,none⟩:=by unfold Addr.add;split;(·rename_i h;subst h;rfl);·rfl
  rw[e1];exact hc j u hj
end
end
section
section
variable {α : Type} [aG α]
def nF(base:Nat)(w:World)(b:Nat):Prop:=base≤b∧b<w.heap.size
def SB(base:Nat)(w:World)(l:List α)(A:Option Addr)(c:Nat):Prop:=SS w (nF base w) l A c
def RB(base:Nat)(w:World)(a:α)(cs:List Value):Prop:=RS w (nF base w) a cs
def aP(w:World)(base:Nat)(t:TypeId)(v:Value)(l:List α):Prop:=aB w base t v l (nF base w)
variable {w w' : World} {base base' : Nat} {t : TypeId} {v : Value} {l : List α} {A : Option Addr} {c : Nat} {a : α} {cs : List Value}
theorem SB.sa(h:SB base w l A c):SA w l A c:=let⟨F,h1,h2⟩:=h;⟨F,h1,fun b hb=>(h2 b hb).2⟩
theorem SB.mono(h:SB base w l A c)(hb:base'≤base):SB base' w l A c:=let⟨F,h1,h2⟩:=h;⟨F,h1,fun b hm=>⟨Nat.le_trans hb (h2 b hm).1,(h2 b hm).2⟩⟩
theorem RB.mono(h:RB base w a cs)(hb:base'≤base):RB base' w a cs:=let⟨F,h1,h2⟩:=h;⟨F,h1,fun b hm=>⟨Nat.le_trans hb (h2 b hm).1,(h2 b hm).2⟩⟩
theorem SB.below(h:SB base w l A c)(hb:Below w.heap.size w w'):SB base w' l A c:=SS.an h (fun b h=>hb.block b h.2) (fun b h=>⟨h.1,Nat.lt_of_lt_of_le h.2 hb.size⟩)
theorem RB.below(h:RB base w a cs)(hb:Below w.heap.size w w'):RB base w' a cs:=RS.an h (fun b h=>hb.block b h.2) (fun b h=>⟨h.1,Nat.lt_of_lt_of_le h.2 hb.size⟩)
theorem SF.sb(h:SF base w l A c):SB base w l A c:=let⟨F,h1,h2⟩:=h;⟨F,h1,fun b hb=>⟨(h2.2 b hb).1,(h2.2 b hb).2.lt⟩⟩
theorem SB.nil(base:Nat)(w:World):SB (α:=α) base w [] none 0:=⟨[],⟨by simp,by simp,.inl ⟨rfl,rfl,fun _=>rfl⟩⟩,by simp⟩
theorem SB.set(h:SB base w l A c){g:Nat}(hg:g<base)(p:Addr)(hp:p.block=g)(u:Value):SB base (w.setCell p u) l A c:=by
 refine SS.an h (fun b hb=>Below.heap_setCell w p u b (by have:=hb.1;omega)) (fun b hb=>⟨hb.1,by simpa using hb.2⟩)
theorem aP.form(h:aP w base t v l): ∃A c,v=.slice A l.length c:=aB.form h
theorem aP.ar(h:aP w base t v l): ∀g,v.ownBlock=some g→base≤g∧g<w.heap.size:=aB.ar h
theorem aP.below(h:aP w base t v l)(hb:Below w.heap.size w w'):aP w' base t v l:=aB.mono (aB.an h hb fun b hb=>hb.2) fun b h=>⟨h.1,Nat.lt_of_lt_of_le h.2 hb.size⟩
theorem aP.su(w:World)(t:TypeId)(base:Nat)(hb:base≤w.heap.size):aP (α:=α) (w.alloc (.cells #[] t)) base t (.slice (some ⟨w.heap.size,0,none⟩) 0 0) []:=aB.su w t base hb _
theorem aC.cB(h:aC w base t v l):aP w base t v l:=let⟨F,h1,h2⟩:=h;⟨F,h1,fun b hb=>⟨(h2.2 b hb).1,(h2.2 b hb).2.lt⟩⟩
theorem aP.nN(w:World)(base:Nat)(t:TypeId):aP (α:=α) w base t (.slice none 0 0) []:=(aC.nN w base t).cB
theorem aP.sb{A:Option Addr}{n c:Nat}(h:aP w base t (.slice A n c) l):n=l.length∧SB base w l A c:=by
 obtain⟨h1,h2⟩:=aB.ss h w (nF base w) (fun _ _=>rfl) (fun b hb=>by rcases hb with hb|hb;(·exact aP.ar h b hb);·exact hb);exact⟨h1,h2⟩
theorem aP.set(h:aP w base t v l){p:Addr}(hp:p.block<base)(u:Value):aP (w.setCell p u) base t v l:=by
 obtain⟨F,h1,h2⟩:=h;have hlt:=h1.ar;obtain⟨xs,h3,h4,h5⟩:=h1;refine⟨F,⟨xs,?_,h4.an fun b hb=>Below.heap_setCell w p u b (fun e=>by have:=(h2 b hb).1;omega),h5⟩,fun b hb=>⟨(h2 b hb).1,by simpa[World.setCell] using(h2 b hb).2⟩⟩;obtain⟨h6,h7⟩:=h3;refine⟨h6,?_⟩;rcases h7 with h7|⟨g,cap,cur,rfl,hb,hh,h8,h9,h10,h11⟩;·exact .inl h7
 ·exact .inr ⟨g,cap,cur,rfl,hb,(Below.heap_setCell w p u g (fun e=>by omega)).trans hh,h8,h9,h10,h11⟩
variable {P : Program} {W : World}
def xd(W:World)(base:Nat)(e:TypeId)(v:Value)(l:List α)(v':Value)(w':World):Prop:=aP w' base e v' l∧Below base W w'∧(v'.ownBlock=v.ownBlock∨v'.ownBlock=some W.heap.size)∧W.grownBy w' v.ownBlock
theorem ic.xI{S:Nat→Prop}{v':Value}(h:ic W base t v l S v' w')(hS: ∀b,S b→nF base W b):xd W base t v l v' w':=⟨aB.mono h.1 fun b hb=>⟨(hS b hb).1,Nat.lt_of_lt_of_le (hS b hb).2 h.2.1.size⟩,h.2⟩
theorem aP.apart(h:aP w base t v l):aB w base t v l (fun b=>nF base w b∧v.ownBlock≠some b):=by
 obtain⟨F,h1,h2⟩:=h;obtain⟨xs,h3,h4,h5⟩:=h1;exact⟨F,⟨xs,h3,h4,h5⟩,fun b hb=>⟨h2 b hb,fun e=>h5 b e hb⟩⟩
theorem se(t ty:TypeId)(base:Nat)(e:TypeId)(z:Value)(bytes:Nat)(ht:P.underlying t=some (.slice e))(hinfo:(P.info? e).map (fun i=>(i.zero,i.size,i.bytes))=some (some z,aG.wd α,bytes))(hzs:z.cells.size=aG.wd α)(hsz:0<aG.wd α)(v:Value)(l:List α)(el:α)(cs:List Value)(ad:Addr)(c:Nat)(hown:aP W base e v l)(hr:RS W (fun b=>nF base W b∧v.ownBlock≠some b) el cs)(hcells: ∀j u,cs[j]? =some u→W.cell? (ad.add j)=some u)(hbytes:(l.length+1)*bytes≤140737488355328)(h63:l.length+1≤maxLen)(hbW:base≤W.heap.size): ∃v' w',(Builtin.append_ #[t,t] ty #[v,.slice (some ad) 1 c]).run P W=.ok v' w'∧xd W base e v (l++[el]) v' w':=by
 obtain⟨v',w',h1,h2⟩:=jq t ty base e z bytes ht hinfo hzs hsz v l el cs ad c _ hown.apart (fun b hb=>⟨hb.1.2,hb.2⟩) hr hcells hbytes h63 hbW;exact⟨v',w',h1,h2.xI fun b hb=>hb.1⟩
end
def ez(v:aa)(A:Option Addr)(c:Nat):Value:=.agg #[.int .i64 v.kind,.int .i64 v.n,.int .i64 v.x,.string v.s,.slice A v.l.length c]
def vx(w:World)(v:aa)(e:Ending)(w':World):Prop:= ∃A c,e=.returned (ez v A c)∧SB w.heap.size w' v.l A c∧Below w.heap.size w w'
def gG(w:World)(v:aa)(u:Value)(e:Ending)(w':World):Prop:= ∃A c,e=.returned (.tuple #[ez v A c,u])∧SB w.heap.size w' v.l A c∧Below w.heap.size w w'
def vH{α:Type}[aG α](w:World)(l:List α)(e:Ending)(w':World):Prop:= ∃A c,e=.returned (.slice A l.length c)∧SB w.heap.size w' l A c∧Below w.heap.size w w'
end
section
def aW(base:Nat)(vs:List Value)(w:World)(b:Nat):Prop:=nF base w b∧ ∀v∈vs,v.ownBlock≠some b
def jC(u v:Value):Prop:= ∀g,u.ownBlock=some g→v.ownBlock≠some g
theorem jC.symm{u v:Value}(h:jC u v):jC v u:=fun g h1 h2=>h g h2 h1
theorem aW.below{base:Nat}{vs:List Value}{w w':World}{b:Nat}(h:aW base vs w b)(hs:w.heap.size≤w'.heap.size):aW base vs w' b:=⟨⟨h.1.1,Nat.lt_of_lt_of_le h.1.2 hs⟩,h.2⟩
theorem aW.grown{base:Nat}{vs vs':List Value}{W w':World}{v v':Value}{b:Nat}(h:aW base vs W b)(hs:W.heap.size≤w'.heap.size)(hv:v∈vs)(hat:v'.ownBlock=v.ownBlock∨v'.ownBlock=some W.heap.size)(hvs: ∀x∈vs',x∈vs∨x=v'):aW base vs' w' b:=by
 refine⟨⟨h.1.1,Nat.lt_of_lt_of_le h.1.2 hs⟩,fun x hx=> ?_⟩;rcases hvs x hx with hx|rfl;·exact h.2 x hx
 ·rcases hat with e|e;·rw[e];exact h.2 v hv
  ·rw[e];intro e';injection e' with e';have:=h.1.2;omega
section
variable {α β γ : Type} [aG α] [aG β] [aG γ] {w w' W : World} {base : Nat} {t t1 t2 t3 : TypeId} {u v v' v1 v2 v3 : Value} {vs vs' : List Value} {l : List α} {l1 : List α} {l2 : List β} {l3 : List γ}
def bf(w:World)(base:Nat)(t:TypeId)(v:Value)(l:List α)(vs:List Value):Prop:=aB w base t v l (aW base vs w)
theorem bf.below(h:bf w base t v l vs)(hb:Below w.heap.size w w'):bf w' base t v l vs:=aB.mono (aB.an h hb fun b hb=>hb.1.2) fun b h=>h.below hb.size
theorem bf.cB(h:bf w base t v l vs):aP w base t v l:=aB.mono h fun b hb=>hb.1
theorem bf.other(h:bf W base t u l vs)(hv:v∈vs)(hg:W.grownBy w' v.ownBlock)(hat:v'.ownBlock=v.ownBlock∨v'.ownBlock=some W.heap.size)(hu:jC u v)(hvs: ∀x∈vs',x∈vs∨x=v'):bf w' base t u l vs':=by
 obtain⟨F,hC,hF⟩:=h;have hgl:=hC.ar;obtain⟨xs,h1,h2,h3⟩:=hC;refine⟨F,⟨xs,?_,h2.an fun b hb=>hg.block b (hF b hb).1.2 (fun e=>(hF b hb).2 v hv e.symm),h3⟩,fun b hb=>(hF b hb).grown hg.size hv hat hvs⟩;obtain⟨h4,h5⟩:=h1;refine⟨h4,?_⟩;rcases h5 with h5|⟨g,cap,cur,rfl,hb,hh,h6⟩;·exact .inl h5
 ·refine .inr ⟨g,cap,cur,rfl,hb,?_,h6⟩;have hlt:=(hgl g rfl).2;exact(hg.block g hlt (fun e=>hu g rfl e.symm)).trans hh
theorem bf.app(h:ic W base t v l (aW base vs W) v' w')(hv:v∈vs)(hvs: ∀x∈vs',x∈vs∨x=v'):bf w' base t v' l vs':=aB.mono h.1 fun b hb=>hb.grown h.2.1.size hv h.2.2.1 hvs
theorem jC.grown(h:jC u v)(hu: ∀g,u.ownBlock=some g→g<W.heap.size)(hat:v'.ownBlock=v.ownBlock∨v'.ownBlock=some W.heap.size):jC u v':=by
 intro g hg e;rcases hat with e'|e';·rw[e'] at e;exact h g hg e
 ·rw[e'] at e;injection e with e;have:=hu g hg;omega
def cQ(w:World)(base:Nat)(t1 t2:TypeId)(v1 v2:Value)(l1:List α)(l2:List β):Prop:=bf w base t1 v1 l1 [v1,v2]∧bf w base t2 v2 l2 [v1,v2]∧jC v1 v2
def dm(w:World)(base:Nat)(t1 t2 t3:TypeId)(v1 v2 v3:Value)(l1:List α)(l2:List β)(l3:List γ):Prop:=bf w base t1 v1 l1 [v1,v2,v3]∧bf w base t2 v2 l2 [v1,v2,v3]∧bf w base t3 v3 l3 [v1,v2,v3]∧jC v1 v2∧jC v1 v3∧jC v2 v3
theorem cQ.below(h:cQ w base t1 t2 v1 v2 l1 l2)(hb:Below w.heap.size w w'):cQ w' base t1 t2 v1 v2 l1 l2:=⟨h.1.below hb,h.2.1.below hb,h.2.2⟩
theorem dm.below(h:dm w base t1 t2 t3 v1 v2 v3 l1 l2 l3)(hb:Below w.heap.size w w'):dm w' base t1 t2 t3 v1 v2 v3 l1 l2 l3:=⟨h.1.below hb,h.2.1.below hb,h.2.2.1.below hb,h.2.2.2⟩
theorem cQ.ry{l1':List α}(h:cQ W base t1 t2 v1 v2 l1 l2)(ha:ic W base t1 v1 l1' (aW base [v1,v2] W) v' w'):cQ w' base t1 t2 v' v2 l1' l2:=by
 obtain⟨h1,h2,h3⟩:=h;exact⟨bf.app ha (by simp) (by simp),bf.other h2 (v:=v1) (v':=v') (by simp) ha.2.2.2 ha.2.2.1 h3.symm (by simp),(jC.grown h3.symm (fun g hg=>(h2.cB.ar g hg).2) ha.2.2.1).symm⟩
theorem cQ.l8{l2':List β}(h:cQ W base t1 t2 v1 v2 l1 l2)(ha:ic W base t2 v2 l2' (aW base [v1,v2] W) v' w'):cQ w' base t1 t2 v1 v' l1 l2':=by
 obtain⟨h1,h2,h3⟩:=h;exact⟨bf.other h1 (v:=v2) (v':=v') (by simp) ha.2.2.2 ha.2.2.1 h3 (by simp),bf.app ha (by simp) (by simp),jC.grown h3 (fun g hg=>(h1.cB.ar g hg).2) ha.2.2.1⟩
theorem dm.ry{l1':List α}(h:dm W base t1 t2 t3 v1 v2 v3 l1 l2 l3)(ha:ic W base t1 v1 l1' (aW base [v1,v2,v3] W) v' w'):dm w' base t1 t2 t3 v' v2 v3 l1' l2 l3:=by
 obtain⟨h1,h2,h3,h12,h13,h23⟩:=h;exact⟨bf.app ha (by simp) (by simp),bf.other h2 (v:=v1) (v':=v') (by simp) ha.2.2.2 ha.2.2.1 h12.symm (by simp),bf.other h3 (v:=v1) (v':=v') (by simp) ha.2.2.2 ha.2.2.1 h13.symm (by simp),(jC.grown h12.symm (fun g hg=>(h2.cB.ar g hg).2) ha.2.2.1).symm,(jC.grown h13.symm (fun g hg=>(h3.cB.ar g hg).2) ha.2.2.1).symm,h23⟩
theorem dm.l8{l2':List β}(h:dm W base t1 t2 t3 v1 v2 v3 l1 l2 l3)(ha:ic W base t2 v2 l2' (aW base [v1,v2,v3] W) v' w'):dm w' base t1 t2 t3 v1 v' v3 l1 l2' l3:=by
 obtain⟨h1,h2,h3,h12,h13,h23⟩:=h;exact⟨bf.other h1 (v:=v2) (v':=v') (by simp) ha.2.2.2 ha.2.2.1 h12 (by simp),bf.app ha (by simp) (by simp),bf.other h3 (v:=v2) (v':=v') (by simp) ha.2.2.2 ha.2.2.1 h23.symm (by simp),jC.grown h12 (fun g hg=>(h1.cB.ar g hg).2) ha.2.2.1,h13,(jC.grown h23.symm (fun g hg=>(h3.cB.ar g hg).2) ha.2.2.1).symm⟩
theorem dm.wZ{l3':List γ}(h:dm W base t1 t2 t3 v1 v2 v3 l1 l2 l3)(ha:ic W base t3 v3 l3' (aW base [v1,v2,v3] W) v' w'):dm w' base t1 t2 t3 v1 v2 v' l1 l2 l3':=by
 obtain⟨h1,h2,h3,h12,h13,h23⟩:=h;exact⟨bf.other h1 (v:=v3) (v':=v') (by simp) ha.2.2.2 ha.2.2.1 h13 (by simp),bf.other h2 (v:=v3) (v':=v') (by simp) ha.2.2.2 ha.2.2.1 h23 (by simp),bf.app ha (by simp) (by simp),h12,jC.grown h13 (fun g hg=>(h1.cB.ar g hg).2) ha.2.2.1,jC.grown h23 (fun g hg=>(h2.cB.ar g hg).2) ha.2.2.1⟩
theorem aB.td{S:Nat→Prop}(h:aB w base t v l S): ∃A c,v=.slice A l.length c∧((A=none∧c=0)∨ ∃g,A=some ⟨g,0,none⟩):=by
 obtain⟨F,⟨xs,⟨h0,h1⟩,_⟩,_⟩:=h;rcases h1 with⟨rfl,hn⟩|⟨g,cap,cur,rfl,_⟩;·exact⟨none,0,by rw[hn],.inl ⟨rfl,rfl⟩⟩
 ·exact⟨_,_,rfl,.inr ⟨g,rfl⟩⟩
theorem SS.xt{S:Nat→Prop}{A:Option Addr}{n:Nat}(h:n≤maxLen)(hA:A=none→n=0):SS w S ([]:List α) A n:=⟨[],⟨by simp,h,.inl ⟨rfl,rfl,hA⟩⟩,by simp⟩
theorem bf.lit(w:World)(t:TypeId)(base g:Nat)(vs:List Value)(hg:g=w.heap.size)(hb:base≤w.heap.size):bf (α:=α) (w.alloc (.cells #[] t)) base t (.slice (some ⟨g,0,none⟩) 0 0) [] vs:=hg▸aB.su w t base hb _
theorem iS{g g':Nat}(h:g≠g')(n n' c c':Nat):jC (.slice (some ⟨g,0,none⟩) n c) (.slice (some ⟨g',0,none⟩) n' c'):=by
 intro b hb e;simp only[Value.ownBlock,Option.some.injEq] at hb e;omega
theorem bf.vM(w:World)(base:Nat)(t:TypeId)(vs:List Value):bf (α:=α) w base t (.slice none 0 0) [] vs:=⟨[],⟨[],World.ownsRow_nil w base t _,⟨rfl,rfl⟩,by simp⟩,by simp⟩
theorem cQ.start(w:World)(t1 t2:TypeId)(base g:Nat)(hb:base≤w.heap.size)(hg:g=w.heap.size):cQ (α:=α) (β:=β) (w.alloc (.cells #[] t2)) base t1 t2 (.slice none 0 0) (.slice (some ⟨g,0,none⟩) 0 0) [] []:=⟨bf.vM _ _ _ _,bf.lit w t2 base g _ hg hb,fun b hb=>by simp[Value.ownBlock] at hb⟩
theorem dm.start(w:World)(t1 t2 t3:TypeId)(base g1 g2 g3:Nat)(hb:base≤w.heap.size)(h1:g1=w.heap.size)(h2:g2=w.heap.size+1)(h3:g3=w.heap.size+1+1):dm (α:=α) (β:=β) (γ:=γ) (((w.alloc (.cells #[] t1)).alloc (.cells #[] t2)).alloc (.cells #[] t3)) base t1 t2 t3 (.slice (some ⟨g1,0,none⟩) 0 0) (.slice (some ⟨g2,0,none⟩) 0 0) (.slice (some ⟨g3,0,none⟩) 0 0) [] [] []:=by
 refine⟨(bf.lit w t1 base g1 _ h1 hb).below (ab (ab (af _) _) _),(bf.lit (w.alloc (.cells #[] t1)) t2 base g2 _ (by simp;omega) (by simp;omega)).below (ab (af _) _),bf.lit _ t3 base g3 _ (by simp;omega) (by simp;omega),iS (by omega) _ _ _ _,iS (by omega) _ _ _ _,iS (by omega) _ _ _ _⟩
theorem aP.tr(w:World)(t:TypeId)(base g:Nat)(hg:g=w.heap.size)(hb:base≤w.heap.size):aP (α:=α) (w.alloc (.cells #[] t)) base t (.slice (some ⟨g,0,none⟩) 0 0) []:=hg▸aP.su w t base hb
theorem aP.mono{base':Nat}(h:aP w base t v l)(hb:base'≤base):aP w base' t v l:=by
 obtain⟨F,⟨xs,⟨h3,h4⟩,h5,h6⟩,h7⟩:=h;refine⟨F,⟨xs,⟨h3,?_⟩,h5,h6⟩,fun b hb'=>⟨Nat.le_trans hb (h7 b hb').1,(h7 b hb').2⟩⟩;rcases h4 with h4|⟨g,cap,cur,e,h8,h9⟩;·exact .inl h4
 ·exact .inr ⟨g,cap,cur,e,Nat.le_trans hb h8,h9⟩
theorem Kept.grown{F:List Nat}{a:World}{row:Option Nat}(h:Kept F a W)(hg:W.grownBy w' row)(hr: ∀g,row=some g→a.heap.size≤g):Kept F a w':=⟨hg.os.trans h.1,hg.tape.trans h.2.1,hg.output.trans h.2.2.1,Nat.le_trans h.2.2.2.1 hg.size,fun b hb hn=>(hg.block b (Nat.lt_of_lt_of_le hb h.2.2.2.1) (fun e=>by have:=hr b e.symm;omega)).trans (h.2.2.2.2 b hb hn)⟩
theorem iA{B:Nat}(hat:v'.ownBlock=v.ownBlock∨v'.ownBlock=some W.heap.size)(hv: ∀g,v.ownBlock=some g→B≤g)(hW:B≤W.heap.size): ∀g,v'.ownBlock=some g→B≤g:=by
 intro g hg;rcases hat with e|e;·exact hv g (e▸hg)
 ·rw[e] at hg;injection hg with hg;omega
def bC(w:World)(g:Nat)(a b c d e:Value):World:=((((w.setCell ⟨g,0,none⟩ a).setCell ⟨g,1,none⟩ b).setCell ⟨g,2,none⟩ c).setCell ⟨g,3,none⟩ d).setCell ⟨g,4,none⟩ e
theorem bT{g:Nat}{x0 x1 x2 x3 x4:Value}(h:ah w g t #[x0,x1,x2,x3,x4])(a b c d e:Value):ah (bC w g a b c d e) g t #[a,b,c,d,e]:=((((h.cK 0 a).cK 1 b).cK 2 c).cK 3 d).cK 4 e
theorem aA(g:Nat)(a b c d e:Value):(bC w g a b c d e).heap.size=w.heap.size:=by
 simp[bC,World.setCell]
theorem gA{g:Nat}(a b c d e:Value){k:Nat}(hk:k≠g):(bC w g a b c d e).heap[k]? =w.heap[k]? :=by
 unfold bC;rw[Below.heap_setCell _ _ _ k (by exact hk),Below.heap_setCell _ _ _ k (by exact hk),Below.heap_setCell _ _ _ k (by exact hk),Below.heap_setCell _ _ _ k (by exact hk),Below.heap_setCell _ _ _ k (by exact hk)]
theorem aq{B g:Nat}{W:World}(h:Below B W w)(hg:B≤g)(a b c d e:Value):Below B W (bC w g a b c d e):=((((h.setCell hg a).setCell hg b).setCell hg c).setCell hg d).setCell hg e
theorem SB.bu{base':Nat}{A:Option Addr}{n:Nat}(h:SB base w l A n){g:Nat}(hg:g<base)(hb:base'≤base)(a b c d e:Value):SB base' (bC w g a b c d e) l A n:=SS.an h (fun k hk=>gA a b c d e (by have:=hk.1;omega)) (fun k hk=>⟨Nat.le_trans hb hk.1,by rw[aA];exact hk.2⟩)
theorem aP.bu{base':Nat}(h:aP w base t v l){g:Nat}(hg:g<base)(hb:base'≤base)(a b c d e:Value):aP (bC w g a b c d e) base' t v l:=aP.mono (((((h.set (p:=⟨g,0,none⟩) hg a).set (p:=⟨g,1,none⟩) hg b).set (p:=⟨g,2,none⟩) hg c).set (p:=⟨g,3,none⟩) hg d).set (p:=⟨g,4,none⟩) hg e) hb
theorem nF.free{w0 w':World}{b:Nat}(h:nF w0.heap.size w' b)(hbase:base≤w0.heap.size)(hvs: ∀v∈vs,∀g,v.ownBlock=some g→g<w0.heap.size):aW base vs w' b:=⟨⟨Nat.le_trans hbase h.1,h.2⟩,fun v hv e=>by have:=hvs v hv b e;have:=h.1;omega⟩
theorem SS.cm{S S':Nat→Prop}{A:Option Addr}{n:Nat}(h:SS w S l A n){g:Nat}(hg: ∀b,S b→b≠g)(hS: ∀b,S b→S' b)(a b c d e:Value):SS (bC w g a b c d e) S' l A n:=SS.an h (fun k hk=>gA a b c d e (hg k hk)) hS
theorem bf.set(h:bf w base t v l vs){p:Addr}(hp:p.block<base)(u:Value):bf (w.setCell p u) base t v l vs:=by
 obtain⟨F,h1,h2⟩:=h;obtain⟨xs,h3,h4,h5⟩:=h1;refine⟨F,⟨xs,?_,h4.an fun b hb=>Below.heap_setCell w p u b (fun e=>by have:=(h2 b hb).1.1;omega),h5⟩,fun b hb=>(h2 b hb).below (by simp[World.setCell])⟩;obtain⟨h6,h7⟩:=h3;refine⟨h6,?_⟩;rcases h7 with h7|⟨g,cap,cur,rfl,hb,hh,h8⟩;·exact .inl h7
 ·exact .inr ⟨g,cap,cur,rfl,hb,(Below.heap_setCell w p u g (fun e=>by omega)).trans hh,h8⟩
theorem cQ.set(h:cQ w base t1 t2 v1 v2 l1 l2){p:Addr}(hp:p.block<base)(u:Value):cQ (w.setCell p u) base t1 t2 v1 v2 l1 l2:=⟨h.1.set hp u,h.2.1.set hp u,h.2.2⟩
theorem SS.xz{A:Option Addr}{n:Nat}(h:SS w (aW base vs w) l A n){p:Addr}(hp:p.block<base)(u:Value):SS (w.setCell p u) (aW base vs (w.setCell p u)) l A n:=SS.an h (fun b hb=>Below.heap_setCell w p u b (fun e=>by have:=hb.1.1;omega)) (fun b hb=>hb.below (by simp[World.setCell]))
theorem SS.nU{l':List β}{A:Option Addr}{n:Nat}{S:Nat→Prop}(h:SS W (aW base vs W) l A n)(ha:ic W base t v l' S v' w')(hv:v∈vs)(hvs: ∀x∈vs',x∈vs∨x=v'):SS w' (aW base vs' w') l A n:=SS.an h (fun b hb=>ha.2.2.2.block b hb.1.2 (fun e=>hb.2 v hv e.symm)) (fun b hb=>hb.grown ha.2.1.size hv ha.2.2.1 hvs)
theorem SS.aV{A:Option Addr}{n:Nat}(h:SS w (aW base vs w) l A n)(hb:Below w.heap.size w w'):SS w' (aW base vs w') l A n:=SS.an h (fun b h=>hb.block b h.1.2) (fun b h=>h.below hb.size)
theorem SB.free{base0:Nat}{A:Option Addr}{n:Nat}{w0:World}(h:SB w0.heap.size w l A n)(hbase:base0≤w0.heap.size)(hvs: ∀v∈vs,∀g,v.ownBlock=some g→g<w0.heap.size):SS w (aW base0 vs w) l A n:=SS.an h (fun _ _=>rfl) (fun b hb=>nF.free hb hbase hvs)
theorem RS.val{S:Nat→Prop}{v:aa}{A:Option Addr}{c:Nat}(hI:bB v)(h:SS w S v.l A c):RS w S v [.int .i64 v.kind,.int .i64 v.n,.int .i64 v.x,.string v.s,.slice A v.l.length c]:=by
 obtain⟨F,h1,h2⟩:=h;exact⟨F,dh.2 ⟨A,c,rfl,hI,h1⟩,h2⟩
theorem RS.lR{S:Nat→Prop}{x:ag}{A:Option Addr}{c:Nat}(hI:aX x.kind)(h:SS w S x.p A c):RS w S x [.int .i64 x.kind,.slice A x.p.length c]:=by
 obtain⟨F,h1,h2⟩:=h;exact⟨F,⟨A,c,rfl,hI,h1⟩,h2⟩
theorem RS.int{S:Nat→Prop}{n:Int}(hI:aX n):RS w S n [.int .i64 n]:=⟨[],⟨rfl,rfl,hI⟩,by simp⟩
theorem SS.wP{S S':Nat→Prop}{A:Option Addr}{n:Nat}(h:SS w S ([]:List α) A n):SS w' S' ([]:List α) A n:=by
 obtain⟨F,⟨h1,h2,h3⟩,_⟩:=h;refine⟨[],⟨h1,h2,.inl ⟨rfl,rfl,?_⟩⟩,by simp⟩;rcases h3 with⟨_,_,h⟩|⟨b,off,F',xs,rfl,_⟩;·exact h
 ·intro e;cases e
theorem aW.sb{vs:List Value}{A:Option Addr}{n:Nat}(h:SS w (aW base vs w) l A n):SB base w l A n:=SS.an h (fun _ _=>rfl) (fun b hb=>hb.1)
theorem cQ.lt(h:cQ w base t1 t2 v1 v2 l1 l2): ∀v∈[v1,v2],∀g,v.ownBlock=some g→g<w.heap.size:=by
 intro v hv g hg;simp only[List.mem_cons,List.not_mem_nil,or_false] at hv;rcases hv with rfl|rfl;·exact(h.1.cB.ar g hg).2
 ·exact(h.2.1.cB.ar g hg).2
theorem dm.lt(h:dm w base t1 t2 t3 v1 v2 v3 l1 l2 l3): ∀v∈[v1,v2,v3],∀g,v.ownBlock=some g→g<w.heap.size:=by
 intro v hv g hg;simp only[List.mem_cons,List.not_mem_nil,or_false] at hv;rcases hv with rfl|rfl|rfl;·exact(h.1.cB.ar g hg).2
 ·exact(h.2.1.cB.ar g hg).2
 ·exact(h.2.2.1.cB.ar g hg).2
variable {P : Program}
theorem bN(vs:List Value)(t ty:TypeId)(base:Nat)(e:TypeId)(z:Value)(bytes:Nat)(ht:P.underlying t=some (.slice e))(hinfo:(P.info? e).map (fun i=>(i.zero,i.size,i.bytes))=some (some z,aG.wd α,bytes))(hzs:z.cells.size=aG.wd α)(hsz:0<aG.wd α)(v:Value)(l:List α)(el:α)(cs:List Value)(ad:Addr)(c:Nat)(hown:bf W base e v l vs)(hv:v∈vs)(hr:RS W (aW base vs W) el cs)(hcells: ∀j u,cs[j]? =some u→W.cell? (ad.add j)=some u)(hbytes:(l.length+1)*bytes≤140737488355328)(h63:l.length+1≤maxLen)(hbW:base≤W.heap.size): ∃v' w',(Builtin.append_ #[t,t] ty #[v,.slice (some ad) 1 c]).run P W=.ok v' w'∧ic W base e v (l++[el]) (aW base vs W) v' w':=jq t ty base e z bytes ht hinfo hzs hsz v l el cs ad c _ hown (fun b hb=>⟨hb.1.2,hb.2 v hv⟩) hr hcells hbytes h63 hbW
theorem dO(vs:List Value)(t ty:TypeId)(base:Nat)(e:TypeId)(z:Value)(bytes:Nat)(ht:P.underlying t=some (.slice e))(hinfo:(P.info? e).map (fun i=>(i.zero,i.size,i.bytes))=some (some z,aG.wd α,bytes))(hzs:z.cells.size=aG.wd α)(hsz:0<aG.wd α)(v:Value)(l ys:List α)(A:Option Addr)(n c:Nat)(hn:n=ys.length)(hown:bf W base e v l vs)(hv:v∈vs)(hr:SS W (aW base vs W) ys A c)(hbytes:(l.length+ys.length)*bytes≤140737488355328)(h63:l.length+ys.length≤maxLen)(hbW:base≤W.heap.size): ∃v' w',(Builtin.append_ #[t,t] ty #[v,.slice A n c]).run P W=.ok v' w'∧ic W base e v (l++ys) (aW base vs W) v' w':=by
 subst hn;exact oj t ty base e z bytes ht hinfo hzs hsz v l ys A c _ _ hown (fun b hb=>⟨hb.1.2,hb.2 v hv⟩) hr (fun F xs _ h=>h) hbytes h63 hbW
theorem nk(vs:List Value)(t ty:TypeId)(base:Nat)(e:TypeId)(z:Value)(bytes:Nat)(ht:P.underlying t=some (.slice e))(hinfo:(P.info? e).map (fun i=>(i.zero,i.size,i.bytes))=some (some z,aG.wd α,bytes))(hzs:z.cells.size=aG.wd α)(hsz:0<aG.wd α)(v:Value)(l:List α)(x y:α)(cx cy:List Value)(ad:Addr)(c:Nat)(hown:bf W base e v l vs)(hv:v∈vs)(hx:RS W (aW base vs W) x cx)(hy:RS W (aW base vs W) y cy)(hcells: ∀j u,(cx++cy)[j]? =some u→W.cell? (ad.add j)=some u)(hbytes:(l.length+2)*bytes≤140737488355328)(h63:l.length+2≤maxLen)(hbW:base≤W.heap.size): ∃v' w',(Builtin.append_ #[t,t] ty #[v,.slice (some ad) 2 c]).run P W=.ok v' w'∧ic W base e v (l++[x,y]) (aW base vs W) v' w':=by
 obtain⟨FX,hX,hFX⟩:=hx;obtain⟨FY,hY,hFY⟩:=hy;have hel:aH W [x,y] (FX++FY) (cx++cy):=⟨FX,FY,cx,cy,rfl,rfl,hX,⟨FY,[],cy,[],by simp,by simp,hY,⟨rfl,rfl⟩⟩⟩;obtain⟨i,hi,hz,hsize,hby⟩:=info_parts hinfo;obtain⟨F,hC,hlt⟩:=hown;have hgl:=hC.ar;obtain⟨xs,h1,h2,h3⟩:=hC;have hS: ∀b,b∈FX++FY→aW base vs W b:=fun b hm=>by rcases List.mem_append.1 hm with hm|hm;(·exact hFX b hm);·exact hFY b hm
 have hF: ∀g,v.ownBlock=some g→g∉FX++FY:=fun g hg hm=>(hS g hm).2 v hv hg;have hltS: ∀b,b∈F++(FX++FY)→aW base vs W b:=fun b hm=>by rcases List.mem_append.1 hm with hm|hm;(·exact hlt b hm);·exact hS b hm
 obtain⟨v',w',hrun,h4,h5,_,h6⟩:=run_append_own_at (P:=P) W base t ty e i z (aG.wd α) bytes ht hi hz hsize hby hzs hsz v l.length xs h1 ad 2 c (cx++cy) hel.len hcells hel.one h63 hbytes hbW;exact⟨v',w',hrun,⟨F++(FX++FY),cY.grown h2 h3 hel hF (fun b hb=>(hltS b hb).1.2) h4 h5 h6,hltS⟩,bR h5 hbW fun k hk=>(hgl k hk).1,h6,h5⟩
end
def i7(tl:TypeId)(w:World)(t:aa)(ls:List ag)(e:Ending)(w':World):Prop:= ∃A c v,e=.returned (.tuple #[ez t A c,v])∧SS w' (aW w.heap.size [v] w') t.l A c∧aP w' w.heap.size tl v ls∧Below w.heap.size w w'
end
end Go.Proofs.YtodpdjehjllhdaaGreatDoor
