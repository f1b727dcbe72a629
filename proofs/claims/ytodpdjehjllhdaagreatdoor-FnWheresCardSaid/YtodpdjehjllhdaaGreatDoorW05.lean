/- Part of a proof: contracts and plain laws. -/
import Derived.Test.YtodpdjehjllhdaaGreatDoorW04
set_option linter.unusedVariables false
set_option linter.unusedSimpArgs false
set_option maxRecDepth 100000
set_option maxHeartbeats 20000000
namespace Go.Proofs.YtodpdjehjllhdaaGreatDoor
open Go.RowKit
section
theorem qN{α:Type}(lt:α→α→Bool)(q:List α)(x y:α):cw lt (q++[y]) x=if lt x y then cw lt q x++[y] else q++[y]++[x]:=by
 unfold cw;rw[List.reverse_append,List.reverse_singleton,List.singleton_append,cI];split;·rw[List.reverse_cons]
 ·simp
theorem dH{α:Type}(lt:α→α→Bool)(x:α): ∀(n:Nat)(q:List α)(m:Nat),q.length=n→m≤q.length→(∀i(h:i<q.length),m≤i→lt x q[i]=true)→(∀h:m-1<q.length,0<m→lt x q[m-1]=false)→cw lt q x=q.take m++[x]++q.drop m|0,q,m,hn,hm,_,_=>by have:q=[]:=List.length_eq_zero_iff.1 hn;subst this;simp[cw,cI]|n+1,q,m,hn,hm,h1,h2=>by(have hne:q≠[]:=fun e=>by rw[e] at hn;simp at hn);obtain⟨q',y,rfl⟩: ∃q' y,q=q'++[y]:=⟨q.dropLast,q.getLast hne,(List.dropLast_concat_getLast hne).symm⟩;(have hl:(q'++[y]).length=q'.length+1:=by simp);rw[qN];by_cases hm':m=q'.length+1;(·have:=h2 (by omega) (by omega);rw[List.getElem_append_right (by omega)] at this;simp at this;rw[if_neg (by rw[this];simp),List.take_of_length_le (by omega),List.drop_of_length_le (by omega)];simp);·have hy:=h1 q'.length (by omega) (by omega);rw[List.getElem_append_right (by omega)] at hy;simp at hy;rw[if_pos hy];have ih:=dH lt x n q' m (by omega) (by omega) (fun i h hi=>by have:=h1 i (by omega) hi;rwa[List.getElem_append_left h] at this) (fun h hm0=>by have:=h2 (by omega) hm0;rwa[List.getElem_append_left h] at this);rw[ih,List.take_append_of_le_length (by omega),List.drop_append_of_le_length (by omega)];simp
theorem kM(a b:List ah):aj (a++b)=aj a++aj b:=by
 unfold aj;rw[List.flatMap_append]
theorem oI: ∀(cs:List ah)(m:Nat),aj (cs.take m)=(aj cs).take (2*m)|[],m=>by simp[aj]|c::cs,0=>by simp[aj]|c::cs,m+1=>by rw[List.take_succ_cons,a7,a7,oI cs m,show 2*(m+1)=2*m+1+1 by omega,List.take_succ_cons,List.take_succ_cons]
theorem ny: ∀(cs:List ah)(m:Nat),aj (cs.drop m)=(aj cs).drop (2*m)|[],m=>by simp[aj]|c::cs,0=>by simp|c::cs,m+1=>by rw[List.drop_succ_cons,a7,ny cs m,show 2*(m+1)=2*m+1+1 by omega,List.drop_succ_cons,List.drop_succ_cons]
theorem gU: ∀(cs:List ah)(m:Nat)(h:m<cs.length),(aj cs)[2*m]'(by rw[cJ];omega)=cs[m].name|c::cs,0,h=>by simp[a7]|c::cs,m+1,h=>by have:=gU cs m (by simpa using h);simp only[a7,show 2*(m+1)=2*m+1+1 by omega,List.getElem_cons_succ];exact this
theorem l5: ∀(cs:List ah)(m:Nat)(h:m<cs.length),(aj cs)[2*m+1]'(by rw[cJ];omega)=cs[m].val|c::cs,0,h=>by simp[a7]|c::cs,m+1,h=>by have:=l5 cs m (by simpa using h);simp only[a7,show 2*(m+1)+1=2*m+1+1+1 by omega,List.getElem_cons_succ];exact this
theorem fX{α:Type}(lt:α→α→Bool): ∀(xs q:List α)(x:α),aq lt q (xs++[x])=cw lt (aq lt q xs) x|[],q,x=>by simp[aq]|y::xs,q,x=>by rw[List.cons_append,aq,aq,fX lt xs]
theorem fI{α:Type}(lt:α→α→Bool)(xs:List α):(aq lt [] xs).length=xs.length:=by
 have:=(bD lt xs []).length_eq;simpa using this
def QB(base X:Nat)(b:Nat):Prop:=base≤b∧b≠X
section
variable {α : Type} [aD α] {P : Program} {W : World}
def di(Q:Nat→Prop)(w:World)(base:Nat)(t:TypeId)(v:Value)(l:List α):Prop:=az w base t v l (fun b=>Q b∧b<w.heap.size)
def zi(Q:Nat→Prop)(N:Nat)(W:World)(base:Nat)(e:TypeId)(v:Value)(l:List α)(v':Value)(w':World):Prop:=di Q w' base e v' l∧Below N W w'∧(∀g,v'.ownBlock=some g→N≤g)∧W.grownBy w' v.ownBlock∧(v'.ownBlock=v.ownBlock∨v'.ownBlock=some W.heap.size)
theorem di.below{Q:Nat→Prop}{w w':World}{base:Nat}{t:TypeId}{v:Value}{l:List α}(h:di Q w base t v l)(hb:Below w.heap.size w w'):di Q w' base t v l:=az.mono (az.al h hb fun b hb=>hb.2) fun b h=>⟨h.1,Nat.lt_of_lt_of_le h.2 hb.size⟩
theorem di.drew{Q:Nat→Prop}{w:World}{base:Nat}{t:TypeId}{v:Value}{l:List α}(h:di Q w base t v l):di Q w.drew base t v l:=h.below (ae w).drew
theorem di.ss{Q:Nat→Prop}{w:World}{base:Nat}{t:TypeId}{g n c:Nat}{l:List α}(h:di Q w base t (.slice (some ⟨g,0,none⟩) n c) l)(hg:Q g):n=l.length∧SS w (fun b=>Q b∧b<w.heap.size) l (some ⟨g,0,none⟩) c:=by
 obtain⟨h1,h2⟩:=az.ss h w (fun b=>Q b∧b<w.heap.size) (fun _ _=>rfl) (fun b hb=>by rcases hb with hb|hb;(·simp only[Value.ownBlock,Option.some.injEq] at hb;subst hb;exact⟨hg,(az.an h g rfl).2⟩);·exact hb);exact⟨h1,h2⟩
theorem jS(Q:Nat→Prop)(N:Nat)(t ty:TypeId)(base:Nat)(e:TypeId)(z:Value)(bytes:Nat)(ht:P.underlying t=some (.slice e))(hinfo:(P.info? e).map (fun i=>(i.zero,i.size,i.bytes))=some (some z,aD.wd α,bytes))(hzs:z.cells.size=aD.wd α)(hsz:0<aD.wd α)(v:Value)(l ys:List α)(ad:Addr)(c:Nat)(F':List Nat)(news:List Value)(hN:N≤W.heap.size)(hbN:base≤N)(hown:di Q W base e v l)(hv: ∀g,v.ownBlock=some g→N≤g)(hel:aL W ys F' news)(hF': ∀b,b∈F'→Q b∧b<N)(hcells: ∀j u,news[j]? =some u→W.cell? (ad.add j)=some u)(hbytes:(l.length+ys.length)*bytes≤140737488355328)(h63:l.length+ys.length≤maxLen): ∃v' w',(Builtin.append_ #[t,t] ty #[v,.slice (some ad) ys.length c]).run P W=.ok v' w'∧zi Q N W base e v (l++ys) v' w':=by
 obtain⟨i,hi,hz,hsize,hby⟩:=info_parts hinfo;obtain⟨F,hC,hlt⟩:=hown;have hgl:=hC.an;obtain⟨xs,h1,h2,h3⟩:=hC;have hF: ∀g,v.ownBlock=some g→g∉F':=fun g hg hm=>by have:=(hF' g hm).2;have:=hv g hg;omega
 have hnew: ∀b,b∈F++F'→Q b∧b<W.heap.size:=fun b hm=>by rcases List.mem_append.1 hm with hm|hm;(·exact hlt b hm);·exact⟨(hF' b hm).1,Nat.lt_of_lt_of_le (hF' b hm).2 hN⟩
 obtain⟨v',w',hrun,h4,h5,_,h6⟩:=run_append_own_at (P:=P) W base t ty e i z (aD.wd α) bytes ht hi hz hsize hby hzs hsz v l.length xs h1 ad ys.length c news hel.len hcells hel.one h63 hbytes (Nat.le_trans hbN hN);refine⟨v',w',hrun,⟨F++F',c7.grown h2 h3 hel hF (fun b hb=>(hnew b hb).2) h4 h5 h6,fun b hb=>⟨(hnew b hb).1,Nat.lt_of_lt_of_le (hnew b hb).2 h5.size⟩⟩,bM h5 hN fun k hk=>hv k hk,fun g hg=> ?_,h5,h6⟩;rcases h6 with e|e;·exact hv g (e▸hg)
 ·rw[e] at hg;injection hg with hg;omega
theorem jr(Q:Nat→Prop)(N:Nat)(t ty:TypeId)(base:Nat)(e:TypeId)(z:Value)(bytes:Nat)(ht:P.underlying t=some (.slice e))(hinfo:(P.info? e).map (fun i=>(i.zero,i.size,i.bytes))=some (some z,aD.wd α,bytes))(hzs:z.cells.size=aD.wd α)(hsz:0<aD.wd α)(v:Value)(l ys:List α)(A:Option Addr)(n c:Nat)(hnl:n=ys.length)(hN:N≤W.heap.size)(hbN:base≤N)(hown:di Q W base e v l)(hv: ∀g,v.ownBlock=some g→N≤g)(hr:SS W (fun b=>Q b∧b<N) ys A c)(hbytes:(l.length+ys.length)*bytes≤140737488355328)(h63:l.length+ys.length≤maxLen): ∃v' w',(Builtin.append_ #[t,t] ty #[v,.slice A n c]).run P W=.ok v' w'∧zi Q N W base e v (l++ys) v' w':=by
 subst hnl;obtain⟨F0,⟨hl1,hl2,hl3⟩,hr2⟩:=hr;rcases hl3 with⟨rfl,rfl,hn⟩|⟨b,off,F1,news,rfl,rfl,hel,hc⟩;·cases A with|none=>rw[hn rfl];obtain⟨F,hC,hFr⟩:=hown;exact⟨v,W,fA base t ty e z bytes ht hinfo v l F hC,by rw[List.append_nil];exact⟨F,hC,hFr⟩,Below.refl _ _,hv,fV _ _,.inl rfl⟩|some ad=>exact jS Q N t ty base e z bytes ht hinfo hzs hsz v l [] ad c [] [] hN hbN hown hv ⟨rfl,rfl⟩ (by simp) (fun j u hj=>by simp at hj) hbytes h63
 ·refine jS Q N t ty base e z bytes ht hinfo hzs hsz v l ys ⟨b,off,none⟩ c F1 news hN hbN hown hv hel (fun b hb=>hr2 b (List.mem_cons_of_mem _ hb)) (fun j u hj=> ?_) hbytes h63;have e1:(⟨b,off,none⟩:Addr).add j=⟨b,off+j,none⟩:=by unfold Addr.add;split;(·rename_i h;subst h;rfl);·rfl
  rw[e1];exact hc j u hj
theorem oJ(Q:Nat→Prop)(N:Nat)(t ty:TypeId)(base:Nat)(e:TypeId)(z:Value)(bytes:Nat)(ht:P.underlying t=some (.slice e))(hinfo:(P.info? e).map (fun i=>(i.zero,i.size,i.bytes))=some (some z,aD.wd α,bytes))(hzs:z.cells.size=aD.wd α)(hsz:0<aD.wd α)(v:Value)(l:List α)(x y:α)(cx cy:List Value)(ad:Addr)(c:Nat)(hN:N≤W.heap.size)(hbN:base≤N)(hown:di Q W base e v l)(hv: ∀g,v.ownBlock=some g→N≤g)(hx:RS W (fun b=>Q b∧b<N) x cx)(hy:RS W (fun b=>Q b∧b<N) y cy)(hcells: ∀j u,(cx++cy)[j]? =some u→W.cell? (ad.add j)=some u)(hbytes:(l.length+2)*bytes≤140737488355328)(h63:l.length+2≤maxLen): ∃v' w',(Builtin.append_ #[t,t] ty #[v,.slice (some ad) 2 c]).run P W=.ok v' w'∧zi Q N W base e v (l++[x,y]) v' w':=by
 obtain⟨FX,hX,hFX⟩:=hx;obtain⟨FY,hY,hFY⟩:=hy;refine jS Q N t ty base e z bytes ht hinfo hzs hsz v l [x,y] ad c (FX++FY) (cx++cy) hN hbN hown hv ⟨FX,FY,cx,cy,rfl,rfl,hX,⟨FY,[],cy,[],by simp,by simp,hY,⟨rfl,rfl⟩⟩⟩ (fun b hb=> ?_) hcells hbytes h63;rcases List.mem_append.1 hb with h|h;·exact hFX b h
 ·exact hFY b h
theorem di.nu{Q:Nat→Prop}{w:World}{base:Nat}{t:TypeId}{v:Value}{l:List α}(h:di Q w base t v l)(hl:0<l.length): ∃g c,v=.slice (some ⟨g,0,none⟩) l.length c:=by
 obtain⟨F,⟨xs,h1,h2,h3⟩,_⟩:=h;rcases h1.2 with⟨hv,hn⟩|⟨g,cap,cur,hv,_⟩;·omega
 ·exact⟨g,cap,hv⟩
theorem aH.nu{w:World}{base:Nat}{t:TypeId}{v:Value}{l:List α}(h:aH w base t v l)(hl:0<l.length): ∃g c,v=.slice (some ⟨g,0,none⟩) l.length c:=by
 obtain⟨F,⟨xs,h1,h2,h3⟩,_⟩:=h;rcases h1.2 with⟨hv,hn⟩|⟨g,cap,cur,hv,_⟩;·omega
 ·exact⟨g,cap,hv⟩
theorem zh.take{w:World}{S:Nat→Prop}{l:List α}{A:Option Addr}{c:Nat}(h:SS w S l A c)(k:Nat)(hk:k≤l.length):SS w S (l.take k) A c:=by
 obtain⟨F,⟨h1,h2,h3⟩,hF⟩:=h;rcases h3 with⟨rfl,rfl,hz⟩|⟨b,off,F',xs,hA,rfl,he,hc⟩;·exact⟨[],⟨by simp,h2,.inl ⟨by simp,rfl,hz⟩⟩,by simp⟩
 ·rw[←List.take_append_drop k l] at he;obtain⟨F1,F2,x1,x2,rfl,rfl,he1,_⟩:=he.split;refine⟨b::F1,⟨by simp;omega,h2,.inr ⟨b,off,F1,x1,hA,rfl,he1,fun j v hj=> ?_⟩⟩,fun x hx=>hF x ?_⟩;·exact hc j v (by rw[List.getElem?_append_left (List.getElem?_eq_some_iff.1 hj).1];exact hj)
  ·simp only[List.mem_cons,List.mem_append] at hx ⊢;rcases hx with rfl|hx;·exact .inl rfl
   ·exact .inr (.inl hx)
theorem zh.drop{w:World}{S:Nat→Prop}{l:List α}{b off c:Nat}(h:SS w S l (some ⟨b,off,none⟩) c)(k:Nat)(hk:k≤l.length):SS w S (l.drop k) (some ⟨b,off+k*aD.wd α,none⟩) (c-k):=by
 obtain⟨F,⟨h1,h2,h3⟩,hF⟩:=h;rcases h3 with⟨rfl,rfl,hz⟩|⟨b',off',F',xs,hA,rfl,he,hc⟩;·exact⟨[],⟨by simp,by omega,.inl ⟨by simp,rfl,fun h=>by cases h⟩⟩,by simp⟩
 ·injection hA with hA;injection hA with e1 e2;subst e1 e2;rw[←List.take_append_drop k l] at he;obtain⟨F1,F2,x1,x2,rfl,rfl,he1,he2⟩:=he.split;have hx1:x1.length=k*aD.wd α:=by rw[he1.len,List.length_take,Nat.min_eq_left hk]
  refine⟨b::F2,⟨by simp;omega,by omega,.inr ⟨b,_,F2,x2,rfl,rfl,he2,fun j v hj=> ?_⟩⟩,fun x hx=>hF x ?_⟩;·have:=hc (k*aD.wd α+j) v (by rw[List.getElem?_append_right (by omega),hx1,Nat.add_sub_cancel_left];exact hj);rwa[←Nat.add_assoc] at this
  ·simp only[List.mem_cons,List.mem_append] at hx ⊢;rcases hx with rfl|hx;·exact .inl rfl
   ·exact .inr (.inr hx)
theorem zh.yL{w:World}{S:Nat→Prop}{l:List α}{b off c:Nat}(h:SS w S l (some ⟨b,off,none⟩) c)(k:Nat)(hk:k≤l.length):SS w S (l.drop k) (if c=k then some ⟨b,off,none⟩ else some ⟨b,off+k*aD.wd α,none⟩) (c-k):=by
 by_cases e:c=k;·rw[if_pos e];obtain⟨F,⟨h1,h2,_⟩,hF⟩:=h;have hl:l.drop k=[]:=List.drop_eq_nil_of_le (by omega);rw[hl];exact⟨[],⟨by simp,by omega,.inl ⟨rfl,rfl,fun h=>by cases h⟩⟩,by simp⟩
 ·rw[if_neg e];exact zh.drop h k hk
theorem uk{w w':World}{t t0:TypeId}{row:Option Nat}{cs0 cs:Array Value}(hg:((w.alloc (.cells cs0 t0)).alloc (.cells cs t)).grownBy w' row):(∀g,g=w.heap.size→row≠some g→ai w' g t0 cs0)∧(∀g,g=w.heap.size+1→row≠some g→ai w' g t cs):=⟨fun g e h=>by subst e;exact ai.grown ((ai.new w t0 cs0).alloc _) hg h,fun g e h=>ai.grown (ai.at (by simp;exact e)) hg h⟩
theorem lk{w w':World}{t t0:TypeId}{row:Option Nat}{cs0 cs:Array Value}(hg:((w.alloc (.cells cs0 t0)).alloc (.cells cs t)).drew.grownBy w' row):(∀g,g=w.heap.size→row≠some g→ai w' g t0 cs0)∧(∀g,g=w.heap.size+1→row≠some g→ai w' g t cs):=⟨fun g e h=>by subst e;exact ai.grown (ai.drew ((ai.new w t0 cs0).alloc _)) hg h,fun g e h=>ai.grown (ai.drew (ai.at (by simp;exact e))) hg h⟩
theorem ai.dQ{w:World}{g:Nat}{t:TypeId}{cs:Array Value}(h:ai w g t cs): ∀j u,cs.toList[j]? =some u→w.cell? ((⟨g,0,none⟩:Addr).add j)=some u:=by
 intro j u hj;have e1:(⟨g,0,none⟩:Addr).add j=⟨g,j,none⟩:=by unfold Addr.add;split;(·rename_i h;subst h;rfl);·simp
 rw[e1,h.cell];rw[←Array.getElem?_toList];exact hj
section
variable {α : Type} [aD α]
theorem di.mw{Q:Nat→Prop}(w:World)(t:TypeId)(base g:Nat)(hg:g=w.heap.size)(hb:base≤w.heap.size):di (α:=α) Q (w.alloc (.cells #[] t)) base t (.slice (some ⟨g,0,none⟩) 0 0) []:=hg▸az.sG w t base hb _
theorem di.uI{Q:Nat→Prop}(w:World)(t:TypeId)(base g:Nat)(hg:g=w.heap.size)(hb:base≤w.heap.size):di (α:=α) Q (w.alloc (.cells #[] t)).drew base t (.slice (some ⟨g,0,none⟩) 0 0) []:=(di.mw w t base g hg hb).below (ae _).drew
theorem di.yD{Q:Nat→Prop}(w:World)(t:TypeId)(base g:Nat)(o:Obj)(hg:g=w.heap.size)(hb:base≤w.heap.size):di (α:=α) Q ((w.alloc (.cells #[] t)).alloc o) base t (.slice (some ⟨g,0,none⟩) 0 0) []:=(di.mw w t base g hg hb).below (ab (ae _) _)
theorem di.wB{Q:Nat→Prop}(w:World)(t:TypeId)(base g:Nat)(o:Obj)(hg:g=w.heap.size)(hb:base≤w.heap.size):di (α:=α) Q ((w.alloc (.cells #[] t)).alloc o).drew base t (.slice (some ⟨g,0,none⟩) 0 0) []:=(di.mw w t base g hg hb).below (ab (ae _) _).drew
end
end
end
section
def a6(base:Nat)(vs:List Value)(w:World)(b:Nat):Prop:=nw base w b∧ ∀v∈vs,v.ownBlock≠some b
def kj(u v:Value):Prop:= ∀g,u.ownBlock=some g→v.ownBlock≠some g
theorem kj.symm{u v:Value}(h:kj u v):kj v u:=fun g h1 h2=>h g h2 h1
theorem a6.below{base:Nat}{vs:List Value}{w w':World}{b:Nat}(h:a6 base vs w b)(hs:w.heap.size≤w'.heap.size):a6 base vs w' b:=⟨⟨h.1.1,Nat.lt_of_lt_of_le h.1.2 hs⟩,h.2⟩
theorem a6.sub{base:Nat}{vs vs':List Value}{w:World}{b:Nat}(h:a6 base vs w b)(hs: ∀v∈vs',v∈vs):a6 base vs' w b:=⟨h.1,fun v hv=>h.2 v (hs v hv)⟩
theorem a6.grown{base:Nat}{vs vs':List Value}{W w':World}{v v':Value}{b:Nat}(h:a6 base vs W b)(hs:W.heap.size≤w'.heap.size)(hv:v∈vs)(hat:v'.ownBlock=v.ownBlock∨v'.ownBlock=some W.heap.size)(hvs: ∀x∈vs',x∈vs∨x=v'):a6 base vs' w' b:=by
 refine⟨⟨h.1.1,Nat.lt_of_lt_of_le h.1.2 hs⟩,fun x hx=> ?_⟩;rcases hvs x hx with hx|rfl;·exact h.2 x hx
 ·rcases hat with e|e;·rw[e];exact h.2 v hv
  ·rw[e];intro e';injection e' with e';have:=h.1.2;omega
section
variable {α β γ : Type} [aD α] [aD β] [aD γ] {w w' W : World} {base : Nat} {t t1 t2 t3 : TypeId} {u v v' v1 v2 v3 : Value} {vs vs' : List Value} {l : List α} {l1 : List α} {l2 : List β} {l3 : List γ}
def bg(w:World)(base:Nat)(t:TypeId)(v:Value)(l:List α)(vs:List Value):Prop:=az w base t v l (a6 base vs w)
theorem bg.below(h:bg w base t v l vs)(hb:Below w.heap.size w w'):bg w' base t v l vs:=az.mono (az.al h hb fun b hb=>hb.1.2) fun b h=>h.below hb.size
theorem bg.cO(h:bg w base t v l vs):aH w base t v l:=az.mono h fun b hb=>hb.1
theorem bg.other(h:bg W base t u l vs)(hv:v∈vs)(hg:W.grownBy w' v.ownBlock)(hat:v'.ownBlock=v.ownBlock∨v'.ownBlock=some W.heap.size)(hu:kj u v)(hvs: ∀x∈vs',x∈vs∨x=v'):bg w' base t u l vs':=by
 obtain⟨F,hC,hF⟩:=h;have hgl:=hC.an;obtain⟨xs,h1,h2,h3⟩:=hC;refine⟨F,⟨xs,?_,h2.al fun b hb=>hg.block b (hF b hb).1.2 (fun e=>(hF b hb).2 v hv e.symm),h3⟩,fun b hb=>(hF b hb).grown hg.size hv hat hvs⟩;obtain⟨h4,h5⟩:=h1;refine⟨h4,?_⟩;rcases h5 with h5|⟨g,cap,cur,rfl,hb,hh,h6⟩;·exact .inl h5
 ·refine .inr ⟨g,cap,cur,rfl,hb,?_,h6⟩;have hlt:=(hgl g rfl).2;exact(hg.block g hlt (fun e=>hu g rfl e.symm)).trans hh
theorem bg.app(h:iK W base t v l (a6 base vs W) v' w')(hv:v∈vs)(hvs: ∀x∈vs',x∈vs∨x=v'):bg w' base t v' l vs':=az.mono h.1 fun b hb=>hb.grown h.2.1.size hv h.2.2.1 hvs
theorem kj.grown(h:kj u v)(hu: ∀g,u.ownBlock=some g→g<W.heap.size)(hat:v'.ownBlock=v.ownBlock∨v'.ownBlock=some W.heap.size):kj u v':=by
 intro g hg e;rcases hat with e'|e';·rw[e'] at e;exact h g hg e
 ·rw[e'] at e;injection e with e;have:=hu g hg;omega
def dt(w:World)(base:Nat)(t1 t2:TypeId)(v1 v2:Value)(l1:List α)(l2:List β):Prop:=bg w base t1 v1 l1 [v1,v2]∧bg w base t2 v2 l2 [v1,v2]∧kj v1 v2
def dR(w:World)(base:Nat)(t1 t2 t3:TypeId)(v1 v2 v3:Value)(l1:List α)(l2:List β)(l3:List γ):Prop:=bg w base t1 v1 l1 [v1,v2,v3]∧bg w base t2 v2 l2 [v1,v2,v3]∧bg w base t3 v3 l3 [v1,v2,v3]∧kj v1 v2∧kj v1 v3∧kj v2 v3
theorem dt.below(h:dt w base t1 t2 v1 v2 l1 l2)(hb:Below w.heap.size w w'):dt w' base t1 t2 v1 v2 l1 l2:=⟨h.1.below hb,h.2.1.below hb,h.2.2⟩
theorem dR.below(h:dR w base t1 t2 t3 v1 v2 v3 l1 l2 l3)(hb:Below w.heap.size w w'):dR w' base t1 t2 t3 v1 v2 v3 l1 l2 l3:=⟨h.1.below hb,h.2.1.below hb,h.2.2.1.below hb,h.2.2.2⟩
theorem dt.tL{l1':List α}(h:dt W base t1 t2 v1 v2 l1 l2)(ha:iK W base t1 v1 l1' (a6 base [v1,v2] W) v' w'):dt w' base t1 t2 v' v2 l1' l2:=by
 obtain⟨h1,h2,h3⟩:=h;exact⟨bg.app ha (by simp) (by simp),bg.other h2 (v:=v1) (v':=v') (by simp) ha.2.2.2 ha.2.2.1 h3.symm (by simp),(kj.grown h3.symm (fun g hg=>(h2.cO.an g hg).2) ha.2.2.1).symm⟩
theorem dt.nf{l2':List β}(h:dt W base t1 t2 v1 v2 l1 l2)(ha:iK W base t2 v2 l2' (a6 base [v1,v2] W) v' w'):dt w' base t1 t2 v1 v' l1 l2':=by
 obtain⟨h1,h2,h3⟩:=h;exact⟨bg.other h1 (v:=v2) (v':=v') (by simp) ha.2.2.2 ha.2.2.1 h3 (by simp),bg.app ha (by simp) (by simp),kj.grown h3 (fun g hg=>(h1.cO.an g hg).2) ha.2.2.1⟩
theorem dR.tL{l1':List α}(h:dR W base t1 t2 t3 v1 v2 v3 l1 l2 l3)(ha:iK W base t1 v1 l1' (a6 base [v1,v2,v3] W) v' w'):dR w' base t1 t2 t3 v' v2 v3 l1' l2 l3:=by
 obtain⟨h1,h2,h3,h12,h13,h23⟩:=h;exact⟨bg.app ha (by simp) (by simp),bg.other h2 (v:=v1) (v':=v') (by simp) ha.2.2.2 ha.2.2.1 h12.symm (by simp),bg.other h3 (v:=v1) (v':=v') (by simp) ha.2.2.2 ha.2.2.1 h13.symm (by simp),(kj.grown h12.symm (fun g hg=>(h2.cO.an g hg).2) ha.2.2.1).symm,(kj.grown h13.symm (fun g hg=>(h3.cO.an g hg).2) ha.2.2.1).symm,h23⟩
theorem dR.nf{l2':List β}(h:dR W base t1 t2 t3 v1 v2 v3 l1 l2 l3)(ha:iK W base t2 v2 l2' (a6 base [v1,v2,v3] W) v' w'):dR w' base t1 t2 t3 v1 v' v3 l1 l2' l3:=by
 obtain⟨h1,h2,h3,h12,h13,h23⟩:=h;exact⟨bg.other h1 (v:=v2) (v':=v') (by simp) ha.2.2.2 ha.2.2.1 h12 (by simp),bg.app ha (by simp) (by simp),bg.other h3 (v:=v2) (v':=v') (by simp) ha.2.2.2 ha.2.2.1 h23.symm (by simp),kj.grown h12 (fun g hg=>(h1.cO.an g hg).2) ha.2.2.1,h13,(kj.grown h23.symm (fun g hg=>(h3.cO.an g hg).2) ha.2.2.1).symm⟩
theorem dR.zt{l3':List γ}(h:dR W base t1 t2 t3 v1 v2 v3 l1 l2 l3)(ha:iK W base t3 v3 l3' (a6 base [v1,v2,v3] W) v' w'):dR w' base t1 t2 t3 v1 v2 v' l1 l2 l3':=by
 obtain⟨h1,h2,h3,h12,h13,h23⟩:=h;exact⟨bg.other h1 (v:=v3) (v':=v') (by simp) ha.2.2.2 ha.2.2.1 h13 (by simp),bg.other h2 (v:=v3) (v':=v') (by simp) ha.2.2.2 ha.2.2.1 h23 (by simp),bg.app ha (by simp) (by simp),h12,kj.grown h13 (fun g hg=>(h1.cO.an g hg).2) ha.2.2.1,kj.grown h23 (fun g hg=>(h2.cO.an g hg).2) ha.2.2.1⟩
theorem az.uD{S:Nat→Prop}(h:az w base t v l S): ∃A c,v=.slice A l.length c∧((A=none∧c=0)∨ ∃g,A=some ⟨g,0,none⟩):=by
 obtain⟨F,⟨xs,⟨h0,h1⟩,_⟩,_⟩:=h;rcases h1 with⟨rfl,hn⟩|⟨g,cap,cur,rfl,_⟩;·exact⟨none,0,by rw[hn],.inl ⟨rfl,rfl⟩⟩
 ·exact⟨_,_,rfl,.inr ⟨g,rfl⟩⟩
theorem SS.zr{S:Nat→Prop}{A:Option Addr}{n:Nat}(h:n≤maxLen)(hA:A=none→n=0):SS w S ([]:List α) A n:=⟨[],⟨by simp,h,.inl ⟨rfl,rfl,hA⟩⟩,by simp⟩
theorem bg.lit(w:World)(t:TypeId)(base g:Nat)(vs:List Value)(hg:g=w.heap.size)(hb:base≤w.heap.size):bg (α:=α) (w.alloc (.cells #[] t)) base t (.slice (some ⟨g,0,none⟩) 0 0) [] vs:=hg▸az.sG w t base hb _
theorem js{g g':Nat}(h:g≠g')(n n' c c':Nat):kj (.slice (some ⟨g,0,none⟩) n c) (.slice (some ⟨g',0,none⟩) n' c'):=by
 intro b hb e;simp only[Value.ownBlock,Option.some.injEq] at hb e;omega
theorem bg.yp(w:World)(base:Nat)(t:TypeId)(vs:List Value):bg (α:=α) w base t (.slice none 0 0) [] vs:=⟨[],⟨[],World.ownsRow_nil w base t _,⟨rfl,rfl⟩,by simp⟩,by simp⟩
theorem dt.start(w:World)(t1 t2:TypeId)(base g:Nat)(hb:base≤w.heap.size)(hg:g=w.heap.size):dt (α:=α) (β:=β) (w.alloc (.cells #[] t2)) base t1 t2 (.slice none 0 0) (.slice (some ⟨g,0,none⟩) 0 0) [] []:=⟨bg.yp _ _ _ _,bg.lit w t2 base g _ hg hb,fun b hb=>by simp[Value.ownBlock] at hb⟩
theorem dR.start(w:World)(t1 t2 t3:TypeId)(base g1 g2 g3:Nat)(hb:base≤w.heap.size)(h1:g1=w.heap.size)(h2:g2=w.heap.size+1)(h3:g3=w.heap.size+1+1):dR (α:=α) (β:=β) (γ:=γ) (((w.alloc (.cells #[] t1)).alloc (.cells #[] t2)).alloc (.cells #[] t3)) base t1 t2 t3 (.slice (some ⟨g1,0,none⟩) 0 0) (.slice (some ⟨g2,0,none⟩) 0 0) (.slice (some ⟨g3,0,none⟩) 0 0) [] [] []:=by
 refine⟨(bg.lit w t1 base g1 _ h1 hb).below (ab (ab (ae _) _) _),(bg.lit (w.alloc (.cells #[] t1)) t2 base g2 _ (by simp;omega) (by simp;omega)).below (ab (ae _) _),bg.lit _ t3 base g3 _ (by simp;omega) (by simp;omega),js (by omega) _ _ _ _,js (by omega) _ _ _ _,js (by omega) _ _ _ _⟩
theorem aH.qV(w:World)(t:TypeId)(base g:Nat)(hg:g=w.heap.size)(hb:base≤w.heap.size):aH (α:=α) (w.alloc (.cells #[] t)) base t (.slice (some ⟨g,0,none⟩) 0 0) []:=hg▸aH.sG w t base hb
theorem aH.mono{base':Nat}(h:aH w base t v l)(hb:base'≤base):aH w base' t v l:=by
 obtain⟨F,⟨xs,⟨h3,h4⟩,h5,h6⟩,h7⟩:=h;refine⟨F,⟨xs,⟨h3,?_⟩,h5,h6⟩,fun b hb'=>⟨Nat.le_trans hb (h7 b hb').1,(h7 b hb').2⟩⟩;rcases h4 with h4|⟨g,cap,cur,e,h8,h9⟩;·exact .inl h4
 ·exact .inr ⟨g,cap,cur,e,Nat.le_trans hb h8,h9⟩
theorem Kept.grown{F:List Nat}{a:World}{row:Option Nat}(h:Kept F a W)(hg:W.grownBy w' row)(hr: ∀g,row=some g→a.heap.size≤g):Kept F a w':=⟨hg.os.trans h.1,hg.tape.trans h.2.1,hg.output.trans h.2.2.1,Nat.le_trans h.2.2.2.1 hg.size,fun b hb hn=>(hg.block b (Nat.lt_of_lt_of_le hb h.2.2.2.1) (fun e=>by have:=hr b e.symm;omega)).trans (h.2.2.2.2 b hb hn)⟩
theorem i6{B:Nat}(hat:v'.ownBlock=v.ownBlock∨v'.ownBlock=some W.heap.size)(hv: ∀g,v.ownBlock=some g→B≤g)(hW:B≤W.heap.size): ∀g,v'.ownBlock=some g→B≤g:=by
 intro g hg;rcases hat with e|e;·exact hv g (e▸hg)
 ·rw[e] at hg;injection hg with hg;omega
def bE(w:World)(g:Nat)(a b c d e:Value):World:=((((w.setCell ⟨g,0,none⟩ a).setCell ⟨g,1,none⟩ b).setCell ⟨g,2,none⟩ c).setCell ⟨g,3,none⟩ d).setCell ⟨g,4,none⟩ e
theorem cj{g:Nat}{x0 x1 x2 x3 x4:Value}(h:ai w g t #[x0,x1,x2,x3,x4])(a b c d e:Value):ai (bE w g a b c d e) g t #[a,b,c,d,e]:=((((h.cF 0 a).cF 1 b).cF 2 c).cF 3 d).cF 4 e
theorem aK(g:Nat)(a b c d e:Value):(bE w g a b c d e).heap.size=w.heap.size:=by
 simp[bE,World.setCell]
theorem nO{g:Nat}(a b c d e:Value){k:Nat}(hk:k≠g):(bE w g a b c d e).heap[k]? =w.heap[k]? :=by
 unfold bE;rw[Below.heap_setCell _ _ _ k (by exact hk),Below.heap_setCell _ _ _ k (by exact hk),Below.heap_setCell _ _ _ k (by exact hk),Below.heap_setCell _ _ _ k (by exact hk),Below.heap_setCell _ _ _ k (by exact hk)]
theorem ax{B g:Nat}{W:World}(h:Below B W w)(hg:B≤g)(a b c d e:Value):Below B W (bE w g a b c d e):=((((h.setCell hg a).setCell hg b).setCell hg c).setCell hg d).setCell hg e
theorem SB.bF{base':Nat}{A:Option Addr}{n:Nat}(h:SB base w l A n){g:Nat}(hg:g<base)(hb:base'≤base)(a b c d e:Value):SB base' (bE w g a b c d e) l A n:=SS.al h (fun k hk=>nO a b c d e (by have:=hk.1;omega)) (fun k hk=>⟨Nat.le_trans hb hk.1,by rw[aK];exact hk.2⟩)
theorem aH.bF{base':Nat}(h:aH w base t v l){g:Nat}(hg:g<base)(hb:base'≤base)(a b c d e:Value):aH (bE w g a b c d e) base' t v l:=aH.mono (((((h.set (p:=⟨g,0,none⟩) hg a).set (p:=⟨g,1,none⟩) hg b).set (p:=⟨g,2,none⟩) hg c).set (p:=⟨g,3,none⟩) hg d).set (p:=⟨g,4,none⟩) hg e) hb
theorem nw.free{w0 w':World}{b:Nat}(h:nw w0.heap.size w' b)(hbase:base≤w0.heap.size)(hvs: ∀v∈vs,∀g,v.ownBlock=some g→g<w0.heap.size):a6 base vs w' b:=⟨⟨Nat.le_trans hbase h.1,h.2⟩,fun v hv e=>by have:=hvs v hv b e;have:=h.1;omega⟩
theorem SS.cW{S S':Nat→Prop}{A:Option Addr}{n:Nat}(h:SS w S l A n){g:Nat}(hg: ∀b,S b→b≠g)(hS: ∀b,S b→S' b)(a b c d e:Value):SS (bE w g a b c d e) S' l A n:=SS.al h (fun k hk=>nO a b c d e (hg k hk)) hS
theorem bg.set(h:bg w base t v l vs){p:Addr}(hp:p.block<base)(u:Value):bg (w.setCell p u) base t v l vs:=by
 obtain⟨F,h1,h2⟩:=h;obtain⟨xs,h3,h4,h5⟩:=h1;refine⟨F,⟨xs,?_,h4.al fun b hb=>Below.heap_setCell w p u b (fun e=>by have:=(h2 b hb).1.1;omega),h5⟩,fun b hb=>(h2 b hb).below (by simp[World.setCell])⟩;obtain⟨h6,h7⟩:=h3;refine⟨h6,?_⟩;rcases h7 with h7|⟨g,cap,cur,rfl,hb,hh,h8⟩;·exact .inl h7
 ·exact .inr ⟨g,cap,cur,rfl,hb,(Below.heap_setCell w p u g (fun e=>by omega)).trans hh,h8⟩
theorem dt.set(h:dt w base t1 t2 v1 v2 l1 l2){p:Addr}(hp:p.block<base)(u:Value):dt (w.setCell p u) base t1 t2 v1 v2 l1 l2:=⟨h.1.set hp u,h.2.1.set hp u,h.2.2⟩
theorem SS.Ah{A:Option Addr}{n:Nat}(h:SS w (a6 base vs w) l A n){p:Addr}(hp:p.block<base)(u:Value):SS (w.setCell p u) (a6 base vs (w.setCell p u)) l A n:=SS.al h (fun b hb=>Below.heap_setCell w p u b (fun e=>by have:=hb.1.1;omega)) (fun b hb=>hb.below (by simp[World.setCell]))
theorem SS.o8{l':List β}{A:Option Addr}{n:Nat}{S:Nat→Prop}(h:SS W (a6 base vs W) l A n)(ha:iK W base t v l' S v' w')(hv:v∈vs)(hvs: ∀x∈vs',x∈vs∨x=v'):SS w' (a6 base vs' w') l A n:=SS.al h (fun b hb=>ha.2.2.2.block b hb.1.2 (fun e=>hb.2 v hv e.symm)) (fun b hb=>hb.grown ha.2.1.size hv ha.2.2.1 hvs)
theorem SS.a8{A:Option Addr}{n:Nat}(h:SS w (a6 base vs w) l A n)(hb:Below w.heap.size w w'):SS w' (a6 base vs w') l A n:=SS.al h (fun b h=>hb.block b h.1.2) (fun b h=>h.below hb.size)
theorem SB.free{base0:Nat}{A:Option Addr}{n:Nat}{w0:World}(h:SB w0.heap.size w l A n)(hbase:base0≤w0.heap.size)(hvs: ∀v∈vs,∀g,v.ownBlock=some g→g<w0.heap.size):SS w (a6 base0 vs w) l A n:=SS.al h (fun _ _=>rfl) (fun b hb=>nw.free hb hbase hvs)
theorem RS.val{S:Nat→Prop}{v:aa}{A:Option Addr}{c:Nat}(hI:bq v)(h:SS w S v.l A c):RS w S v [.int .i64 v.kind,.int .i64 v.n,.int .i64 v.x,.string v.s,.slice A v.l.length c]:=by
 obtain⟨F,h1,h2⟩:=h;exact⟨F,cZ.2 ⟨A,c,rfl,hI,h1⟩,h2⟩
theorem RS.lS{S:Nat→Prop}{x:ag}{A:Option Addr}{c:Nat}(hI:aT x.kind)(h:SS w S x.p A c):RS w S x [.int .i64 x.kind,.slice A x.p.length c]:=by
 obtain⟨F,h1,h2⟩:=h;exact⟨F,⟨A,c,rfl,hI,h1⟩,h2⟩
theorem RS.int{S:Nat→Prop}{n:Int}(hI:aT n):RS w S n [.int .i64 n]:=⟨[],⟨rfl,rfl,hI⟩,by simp⟩
theorem SS.yY{S S':Nat→Prop}{A:Option Addr}{n:Nat}(h:SS w S ([]:List α) A n):SS w' S' ([]:List α) A n:=by
 obtain⟨F,⟨h1,h2,h3⟩,_⟩:=h;refine⟨[],⟨h1,h2,.inl ⟨rfl,rfl,?_⟩⟩,by simp⟩;rcases h3 with⟨_,_,h⟩|⟨b,off,F',xs,rfl,_⟩;·exact h
 ·intro e;cases e
theorem a6.sb{vs:List Value}{A:Option Addr}{n:Nat}(h:SS w (a6 base vs w) l A n):SB base w l A n:=SS.al h (fun _ _=>rfl) (fun b hb=>hb.1)
theorem dt.lt(h:dt w base t1 t2 v1 v2 l1 l2): ∀v∈[v1,v2],∀g,v.ownBlock=some g→g<w.heap.size:=by
 intro v hv g hg;simp only[List.mem_cons,List.not_mem_nil,or_false] at hv;rcases hv with rfl|rfl;·exact(h.1.cO.an g hg).2
 ·exact(h.2.1.cO.an g hg).2
theorem dR.lt(h:dR w base t1 t2 t3 v1 v2 v3 l1 l2 l3): ∀v∈[v1,v2,v3],∀g,v.ownBlock=some g→g<w.heap.size:=by
 intro v hv g hg;simp only[List.mem_cons,List.not_mem_nil,or_false] at hv;rcases hv with rfl|rfl|rfl;·exact(h.1.cO.an g hg).2
 ·exact(h.2.1.cO.an g hg).2
 ·exact(h.2.2.1.cO.an g hg).2
variable {P : Program}
theorem bT(vs:List Value)(t ty:TypeId)(base:Nat)(e:TypeId)(z:Value)(bytes:Nat)(ht:P.underlying t=some (.slice e))(hinfo:(P.info? e).map (fun i=>(i.zero,i.size,i.bytes))=some (some z,aD.wd α,bytes))(hzs:z.cells.size=aD.wd α)(hsz:0<aD.wd α)(v:Value)(l:List α)(el:α)(cs:List Value)(ad:Addr)(c:Nat)(hown:bg W base e v l vs)(hv:v∈vs)(hr:RS W (a6 base vs W) el cs)(hcells: ∀j u,cs[j]? =some u→W.cell? (ad.add j)=some u)(hbytes:(l.length+1)*bytes≤140737488355328)(h63:l.length+1≤maxLen)(hbW:base≤W.heap.size): ∃v' w',(Builtin.append_ #[t,t] ty #[v,.slice (some ad) 1 c]).run P W=.ok v' w'∧iK W base e v (l++[el]) (a6 base vs W) v' w':=j6 t ty base e z bytes ht hinfo hzs hsz v l el cs ad c _ hown (fun b hb=>⟨hb.1.2,hb.2 v hv⟩) hr hcells hbytes h63 hbW
theorem ew(vs:List Value)(t ty:TypeId)(base:Nat)(e:TypeId)(z:Value)(bytes:Nat)(ht:P.underlying t=some (.slice e))(hinfo:(P.info? e).map (fun i=>(i.zero,i.size,i.bytes))=some (some z,aD.wd α,bytes))(hzs:z.cells.size=aD.wd α)(hsz:0<aD.wd α)(v:Value)(l ys:List α)(A:Option Addr)(n c:Nat)(hn:n=ys.length)(hown:bg W base e v l vs)(hv:v∈vs)(hr:SS W (a6 base vs W) ys A c)(hbytes:(l.length+ys.length)*bytes≤140737488355328)(h63:l.length+ys.length≤maxLen)(hbW:base≤W.heap.size): ∃v' w',(Builtin.append_ #[t,t] ty #[v,.slice A n c]).run P W=.ok v' w'∧iK W base e v (l++ys) (a6 base vs W) v' w':=by
 subst hn;exact pH t ty base e z bytes ht hinfo hzs hsz v l ys A c _ _ hown (fun b hb=>⟨hb.1.2,hb.2 v hv⟩) hr (fun F xs _ h=>h) hbytes h63 hbW
theorem n8(vs:List Value)(t ty:TypeId)(base:Nat)(e:TypeId)(z:Value)(bytes:Nat)(ht:P.underlying t=some (.slice e))(hinfo:(P.info? e).map (fun i=>(i.zero,i.size,i.bytes))=some (some z,aD.wd α,bytes))(hzs:z.cells.size=aD.wd α)(hsz:0<aD.wd α)(v:Value)(l:List α)(x y:α)(cx cy:List Value)(ad:Addr)(c:Nat)(hown:bg W base e v l vs)(hv:v∈vs)(hx:RS W (a6 base vs W) x cx)(hy:RS W (a6 base vs W) y cy)(hcells: ∀j u,(cx++cy)[j]? =some u→W.cell? (ad.add j)=some u)(hbytes:(l.length+2)*bytes≤140737488355328)(h63:l.length+2≤maxLen)(hbW:base≤W.heap.size): ∃v' w',(Builtin.append_ #[t,t] ty #[v,.slice (some ad) 2 c]).run P W=.ok v' w'∧iK W base e v (l++[x,y]) (a6 base vs W) v' w':=by
 obtain⟨FX,hX,hFX⟩:=hx;obtain⟨FY,hY,hFY⟩:=hy;have hel:aL W [x,y] (FX++FY) (cx++cy):=⟨FX,FY,cx,cy,rfl,rfl,hX,⟨FY,[],cy,[],by simp,by simp,hY,⟨rfl,rfl⟩⟩⟩;obtain⟨i,hi,hz,hsize,hby⟩:=info_parts hinfo;obtain⟨F,hC,hlt⟩:=hown;have hgl:=hC.an;obtain⟨xs,h1,h2,h3⟩:=hC;have hS: ∀b,b∈FX++FY→a6 base vs W b:=fun b hm=>by rcases List.mem_append.1 hm with hm|hm;(·exact hFX b hm);·exact hFY b hm
 have hF: ∀g,v.ownBlock=some g→g∉FX++FY:=fun g hg hm=>(hS g hm).2 v hv hg;have hltS: ∀b,b∈F++(FX++FY)→a6 base vs W b:=fun b hm=>by rcases List.mem_append.1 hm with hm|hm;(·exact hlt b hm);·exact hS b hm
 obtain⟨v',w',hrun,h4,h5,_,h6⟩:=run_append_own_at (P:=P) W base t ty e i z (aD.wd α) bytes ht hi hz hsize hby hzs hsz v l.length xs h1 ad 2 c (cx++cy) hel.len hcells hel.one h63 hbytes hbW;exact⟨v',w',hrun,⟨F++(FX++FY),c7.grown h2 h3 hel hF (fun b hb=>(hltS b hb).1.2) h4 h5 h6,hltS⟩,bM h5 hbW fun k hk=>(hgl k hk).1,h6,h5⟩
end
def jb(tl:TypeId)(w:World)(t:aa)(ls:List ag)(e:Ending)(w':World):Prop:= ∃A c v,e=.returned (.tuple #[eT t A c,v])∧SS w' (a6 w.heap.size [v] w') t.l A c∧aH w' w.heap.size tl v ls∧Below w.heap.size w w'
end
theorem nR: ∀(r:List (aa×List ag))(k i:Nat)(h:i<(aE r k).length)(h0:2*i<r.length)(h1:2*i+1<r.length),(aE r k)[i]=⟨k+i,r[2*i].1,r[2*i].2,r[2*i+1].1,r[2*i+1].2⟩|a::b::l,k,0,_,_,_=>by simp[aE]|a::b::l,k,i+1,h,h0,h1=>by have ih:=nR l (k+1) i (by simpa[aE] using h) (by simp at h0;omega) (by simp at h1;omega);simp only[aE,List.getElem_cons_succ,ih];simp only[show 2*(i+1)=2*i+1+1 by omega,List.getElem_cons_succ,show k+1+i=k+(i+1) by omega]|[a],k,i,h,_,_=>by simp[aE] at h|[],k,i,h,_,_=>by simp[aE] at h
def bX(way:Int)(l:List aa)(p:List GStep):List ah:=aE (projL way 10 l 0 p) 0
theorem cV(way:Int)(l:List aa)(p:List GStep):(bX way l p).length=l.length/2:=by
 unfold bX;rw[jT,bJ]
theorem nZ(i:Nat):gB 10 (2*i)=⟨(i:Int),true⟩:=by
 unfold gB;rw[if_pos rfl,show 2*i/2=i by omega];simp
theorem vN(i:Nat):gB 10 (2*i+1)=⟨(i:Int),false⟩:=by
 unfold gB;rw[if_pos rfl,show(2*i+1)/2=i by omega];simp
theorem gr(way:Int)(l:List aa)(p:List GStep){i:Nat}(h:i<(bX way l p).length)(h0:2*i<l.length)(h1:2*i+1<l.length):(bX way l p)[i].at_=i∧((bX way l p)[i].name,(bX way l p)[i].nl)=cU way 10 l[2*i] (2*i) p∧((bX way l p)[i].val,(bX way l p)[i].vl)=projP way l[2*i+1] (p++[⟨(i:Int),false⟩]):=by
 have e:=nR (projL way 10 l 0 p) 0 i h (by rw[bJ];exact h0) (by rw[bJ];exact h1);unfold bX;rw[e,dq way 10 p l 0 (2*i) h0,dq way 10 p l 0 (2*i+1) h1];refine⟨by simp,by simp,?_⟩;simp only[Nat.zero_add];unfold cU;rw[if_neg (by omega),vN]
theorem iG{way:Int}{l:List aa}{p:List GStep}{i:Nat}(h:i<(bX way l p).length)(h0:2*i<l.length)(h1:2*i+1<l.length)(hw:bn way=true):(bX way l p)[i].name=fj l[2*i]∧(bX way l p)[i].nl=if l[2*i].kind=7 then[] else[⟨7,p++[⟨(i:Int),true⟩]⟩]:=by
 have e:=(gr way l p h h0 h1).2.1;unfold cU at e;rw[if_pos ⟨rfl,by omega,hw⟩,nZ] at e;injection e with e1 e2;exact⟨e1,e2⟩
theorem gF{way:Int}{l:List aa}{p:List GStep}{i:Nat}(h:i<(bX way l p).length)(h0:2*i<l.length)(h1:2*i+1<l.length)(hw:bn way=false):(bX way l p)[i].name=(projP way l[2*i] (p++[⟨(i:Int),true⟩])).1∧(bX way l p)[i].nl=(projP way l[2*i] (p++[⟨(i:Int),true⟩])).2:=by
 have e:=(gr way l p h h0 h1).2.1;unfold cU at e;rw[if_neg (by rw[hw];simp),nZ] at e;exact⟨congrArg Prod.fst e,congrArg Prod.snd e⟩
def eN(cs:List ah)(n:Nat):List Int:=(List.range n).map fun i=>(((cs.take i).flatMap (·.nl)).length:Int)
theorem nV(cs:List ah)(n:Nat):eN cs (n+1)=eN cs n++[(((cs.take n).flatMap (·.nl)).length:Int)]:=by
 unfold eN;rw[List.range_succ,List.map_append];rfl
theorem fE(cs:List ah)(n:Nat):(eN cs n).length=n:=by
 unfold eN;simp
theorem wX(cs:List ah)(n:Nat){i:Nat}(h:i<(eN cs n).length):(eN cs n)[i]=(((cs.take i).flatMap (·.nl)).length:Int):=by
 unfold eN;simp
theorem tN{cs:List ah}{i:Nat}(h:i<cs.length):(cs.take (i+1)).map ah.name=(cs.take i).map ah.name++[cs[i].name]:=by
 rw[List.take_succ_eq_append_getElem h,List.map_append];rfl
theorem qw{cs:List ah}{i:Nat}(h:i<cs.length):(cs.take (i+1)).flatMap (·.nl)=(cs.take i).flatMap (·.nl)++cs[i].nl:=by
 rw[List.take_succ_eq_append_getElem h,List.flatMap_append];simp
theorem yQ{cs:List ah}{i:Nat}(h:i<cs.length): ∃a b,cs.flatMap (·.nl)=a++cs[i].nl++b∧a=(cs.take i).flatMap (·.nl):=by
 refine⟨(cs.take i).flatMap (·.nl),(cs.drop (i+1)).flatMap (·.nl),?_,rfl⟩;rw[←qw h,←List.flatMap_append,List.take_append_drop]
def ij(p:List GStep)(cs:List ah)(i:Nat)(K:List ah)(L:List ag):Prop:=au cs=K++au (cs.drop i)∧aY p cs=L++aY p (cs.drop i)
theorem ij.start(p:List GStep)(cs:List ah):ij p cs 0 [] []:=⟨by simp,by simp⟩
theorem ij.gone{p:List GStep}{cs:List ah}{i:Nat}{K:List ah}{L:List ag}(h:ij p cs i K L)(hi:i<cs.length)(hg:cG cs[i] (cs.drop (i+1))=true)(ha:cs[i].at_=i):ij p cs (i+1) K (L++[⟨8,p++[⟨(i:Int),true⟩]⟩]):=by
 obtain⟨h1,h2⟩:=h;rw[List.drop_eq_getElem_cons hi,au,if_pos hg] at h1;rw[List.drop_eq_getElem_cons hi,aY,if_pos hg,ha] at h2;exact⟨h1,by rw[h2];simp⟩
theorem ij.kept{p:List GStep}{cs:List ah}{i:Nat}{K:List ah}{L:List ag}(h:ij p cs i K L)(hi:i<cs.length)(hg:cG cs[i] (cs.drop (i+1))=false):ij p cs (i+1) (K++[cs[i]]) (L++cs[i].nl++cs[i].vl):=by
 obtain⟨h1,h2⟩:=h;rw[List.drop_eq_getElem_cons hi,au,if_neg (by rw[hg];simp)] at h1;rw[List.drop_eq_getElem_cons hi,aY,if_neg (by rw[hg];simp)] at h2;exact⟨by rw[h1];simp,by rw[h2];simp⟩
theorem ij.done{p:List GStep}{cs:List ah}{i:Nat}{K:List ah}{L:List ag}(h:ij p cs i K L)(hi:cs.length≤i):au cs=K∧aY p cs=L:=by
 obtain⟨h1,h2⟩:=h;rw[List.drop_eq_nil_of_le hi] at h1 h2;exact⟨by simpa[au] using h1,by simpa[aY] using h2⟩
theorem ou(K:List ah)(c:ah):aj K++[c.name,c.val]=aj (K++[c]):=by
 unfold aj;rw[List.flatMap_append];simp
theorem tr{cs:List ah}{x:aa}{i k:Nat}(hk:k<cs.length)(hik:i+1≤k):((cs.drop (i+1)).take (k+1-(i+1))).any (fun d=>decide (d.name=x))=(((cs.drop (i+1)).take (k-(i+1))).any (fun d=>decide (d.name=x))||decide (cs[k].name=x)):=by
 have hl:k-(i+1)<(cs.drop (i+1)).length:=by rw[List.length_drop];omega
 rw[show k+1-(i+1)=k-(i+1)+1 by omega,List.take_succ_eq_append_getElem hl,List.any_append];simp only[List.any_cons,List.any_nil,Bool.or_false];congr 3;rw[List.getElem_drop];congr 2;omega
theorem qb {way : Int} {l : List aa} {p : List GStep} : aj (aq aU [] (au (bX way l p))) = aj (au (bX way l p)) ↔ (aq aU [] (au (bX way l p))).map ah.at_ = (au (bX way l p)).map ah.at_ := by
  obtain ⟨K, hK⟩ : ∃ K, K = au (bX way l p) := ⟨_, rfl⟩
  have hp : (aq aU [] K).Perm K := by simpa using bD aU K []
  have hn : (K.map ah.name).Nodup := by rw [hK]; exact (mj _).1
  have hat : (K.map ah.at_).Nodup := by
    rw [hK]
    have h0 : ((bX way l p).map ah.at_).Nodup := by unfold bX; rw [jn]; exact List.nodup_range'
    have hs : ∀ cs : List ah, (au cs).Sublist cs := by
      intro cs
      induction cs with
      | nil => exact .slnil
      | cons c cs ih =>
        rw [au]
        split
        · exact ih.cons c
        · exact ih.cons_cons c
    exact List.Nodup.sublist ((hs _).map _) h0
  rw [← hK]
  constructor
  · intro h
    have hnames : ∀ a b : List ah, aj a = aj b → a.map ah.name = b.map ah.name := by
      intro a
      induction a with
      | nil =>
        intro b h
        cases b with
        | nil => rfl
        | cons d b => rw [a7] at h; simp [aj] at h
      | cons c a ih =>
        intro b h
        cases b with
        | nil => rw [a7] at h; simp [aj] at h
        | cons d b =>
          rw [a7, a7] at h
          injection h with h1 h2
          injection h2 with h2 h3
          rw [List.map_cons, List.map_cons, h1, ih b h3]
    have h1 := hnames _ _ h
    have key : ∀ (a b : List ah), a.Perm b → (b.map ah.name).Nodup → a.map ah.name = b.map ah.name → a = b := by
      intro a
      induction a with
      | nil => intro b hp _ _; exact (List.nil_perm.1 hp).symm
      | cons c a ih =>
        intro b hp hn h
        cases b with
        | nil => exact absurd hp.length_eq (by simp)
        | cons d b =>
          rw [List.map_cons, List.map_cons] at h
          injection h with h1 h2
          rw [List.map_cons, List.nodup_cons] at hn
          have hc : c ∈ d :: b := hp.mem_iff.1 (by simp)
          have e : c = d := by
            rcases List.mem_cons.1 hc with e | e
            · exact e
            · exact absurd (h1 ▸ List.mem_map_of_mem (f := ah.name) e) hn.1
          subst e
          rw [ih b (List.Perm.cons_inv hp) hn.2 h2]
    rw [key _ _ hp hn h1]
  · intro h
    rw [xp hp hat h]
end Go.Proofs.YtodpdjehjllhdaaGreatDoor
