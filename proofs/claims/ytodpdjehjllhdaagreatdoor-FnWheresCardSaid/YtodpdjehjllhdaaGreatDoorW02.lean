/- Part of a proof: contracts and plain laws. -/
import Derived.Test.YtodpdjehjllhdaaGreatDoorW01
import Derived.Test.YtodpdjehjllhdaaGreatDoorChecked
import Derived.StillTailTactics
import Derived.Outline
import Derived.Laws.BytesArg
import Derived.Laws.Strings
import Derived.Laws.AppendOwnNone
import Derived.Shelf.Small.Bits
import Derived.Shelf.Small.Strs
import Derived.Shelf.Small.Wraps
import Derived.Shelf.Strconv.Itoa0
import Derived.Shelf.Strconv.Itoa1
import Derived.Shelf.LaysM
import Derived.Shelf.Strconv.Itoa2
import Derived.Shelf.Strconv.Itoa3
import Derived.Shelf.Strings.Search1
import Derived.Shelf.Strings.Prefix
import Derived.Shelf.Bits.Mul64
import Derived.Shelf.Unicode.ValidAny
import Derived.Ground.Names2Prog
import Derived.Shelf.Slices.SearchI
import Derived.Test.YtodpdjehjllhdaaGreatDoorProg
set_option linter.unusedVariables false
set_option linter.unusedSimpArgs false
set_option maxRecDepth 100000
set_option maxHeartbeats 20000000
namespace Go.Proofs.YtodpdjehjllhdaaGreatDoor
open Go.RowKit
def af(v:aa):Bool:=if v.kind=1 then decide (v.n=0∧v.x=0∧v.s=.empty∧v.l=[]) else if v.kind=2 then decide (0≤v.n∧v.n≤1)&&decide (v.x=0∧v.s=.empty∧v.l=[]) else if v.kind=3 then decide (-1000000000000000≤v.n∧v.n≤1000000000000000)&&decide (v.x=0∧v.s=.empty∧v.l=[]) else if v.kind=4 then bh v.n v.x&&decide (v.s=.empty∧v.l=[]) else if v.kind=5 then decide (0≤v.n∧v.n≤2)&&decide (v.x=0∧v.s=.empty∧v.l=[]) else if v.kind=6 then aV v.n v.x&&decide (v.x<0∧v.s=.empty∧v.l=[]) else if v.kind=7 then decide (v.n=0∧v.x=0)&&(cd v.s&&decide (v.l=[])) else if v.kind=8 then decide (v.n=0∧v.x=0∧v.l=[]) else if v.kind=9 then decide (v.n=0∧v.x=0∧v.s=.empty) else if v.kind=10 then decide (v.n=0∧v.x=0∧v.s=.empty∧v.l.length%2=0) else if v.kind=11 then decide (0≤v.n∧v.n≤1000000000000000)&&decide (v.x=0∧v.s=.empty∧v.l.length=1) else false
mutual
def valOkP : aa → Bool
  | ⟨k, n, x, s, l⟩ => af ⟨k, n, x, s, l⟩ && valsOkP l
def valsOkP : List aa → Bool
  | [] => true
  | a :: l => valOkP a && valsOkP l
end
theorem bV(v:aa):valOkP v=(af v&&valsOkP v.l):=by
 cases v;rw[valOkP]
theorem dG: ∀l:List aa,valsOkP l=l.all valOkP|[]=>rfl|a::l=>by rw[valsOkP,List.all_cons,dG l]
theorem fC(l:List aa)(a:aa):valsOkP (l++[a])=(valsOkP l&&valOkP a):=by
 rw[dG,List.all_append,←dG];simp
theorem rI{l:List aa}{k:Nat}(hk:k<l.length)(e:valOkP l[k]=false):valsOkP l=false:=by
 rw[dG,List.all_eq_false];exact⟨l[k],List.getElem_mem hk,by simp[e]⟩
theorem bB{l:List aa}(h:valsOkP l=true){k:Nat}(hk:k<l.length):valOkP l[k]=true:=by
 rw[dG,List.all_eq_true] at h;exact h _ (List.getElem_mem hk)
theorem aQ{v:aa}(h:valOkP v=true):af v=true∧valsOkP v.l=true:=by
 rw[bV,Bool.and_eq_true] at h;exact h
def vx(_:Unit)(v:aa):Unit×Bool:=((),af v)
mutual
theorem evG_ok : ∀ v : aa, evG vx v () = ((), valOkP v)
  | ⟨k, n, x, s, l⟩ => by
    rw [evG, valOkP]
    unfold vx
    cases h : af ⟨k, n, x, s, l⟩
    · rfl
    · simp only [Bool.true_and]
      exact evL_ok l
theorem evL_ok : ∀ l : List aa, evL vx l () = ((), valsOkP l)
  | [] => rfl
  | a :: l => by
    rw [evL, valsOkP, evG_ok a]
    cases h : valOkP a
    · rfl
    · simp only [Bool.true_and]
      exact evL_ok l
end
theorem bY:(Tryz.prog.info? 86).map (fun i=>(i.zero,i.size,i.bytes))=some (some (.agg #[.int .i64 0,.bool false]),2,16):=by
 kernel_rfl
theorem bP:(Tryz.prog.info? 62).map (fun i=>(i.zero,i.size,i.bytes))=some (some (.agg #[.int .i64 0,.slice none 0 0]),2,32):=by
 kernel_rfl
theorem b7:(Tryz.prog.info? 27).map (fun i=>(i.zero,i.size,i.bytes))=some (some (.agg #[.int .i64 0,.int .i64 0,.int .i64 0,.string .empty,.slice none 0 0]),5,64):=by
 kernel_rfl
def strOf(l:List UInt8):ByteArray:=⟨l.toArray⟩
theorem dk(l:List UInt8):(strOf l).size=l.length:=by
 simp[strOf,ByteArray.size]
theorem SA.mf{w:World}{l:List UInt8}{A:Option Addr}{c:Nat}(h:SA w l A c):(A=none∧l=[])∨ ∃a,A=some a∧ ∀j v,(l.map fun b=>Value.int .u8 (b.toNat:Int))[j]? =some v→w.cell? (a.add j)=some v:=by
 have h':=h;obtain⟨F,⟨h1,h2,h3⟩,hF⟩:=h;rcases h3 with⟨rfl,_⟩|⟨b,off,F',xs,rfl,rfl,he,hc⟩;·cases A with|none=>exact .inl ⟨rfl,rfl⟩|some a=>exact .inr ⟨a,rfl,fun j v hj=>by simp at hj⟩
 ·refine .inr ⟨_,rfl,fun j v hj=> ?_⟩;have hjl:j<l.length:=by have:=(List.getElem?_eq_some_iff.1 hj).1;simpa using this
  have hadd:(⟨b,off,none⟩:Addr).add j=⟨b,off+j,none⟩:=by unfold Addr.add;split;(·rename_i h0;subst h0;rfl);·rfl
  obtain⟨b',off',hA,_,hcell⟩:=h'.byte_at hjl;injection hA with hA;injection hA with e1 e2;subst e1 e2;rw[hadd,hcell];simp[List.getElem?_eq_getElem hjl] at hj;rw[hj]
theorem bc{P:Program}{src dst e:TypeId}(hs:P.underlying src=some (.slice e))(he:P.underlying e=some (.int .u8))(hd:P.underlying dst=some .string){w:World}{l:List UInt8}{A:Option Addr}{c:Nat}(h:SA w l A c):(convert src dst (.slice A l.length c)).run P w=.ok (.string (strOf l)) w:=by
 rcases h.mf with⟨rfl,rfl⟩|⟨a,rfl,hc⟩;·exact run_convert_bytes_nil w src e hs he _ _ dst hd
 ·have hl:=run_loadCells_list (P:=P) w a (l.map fun b=>Value.int .u8 (b.toNat:Int)) hc;have hl':(loadCells a l.length).run P w=.ok ((l.map fun b=>(b.toNat:Int)).map (Value.int .u8)).toArray w:=by simpa[List.map_map,Function.comp_def] using hl
  rw[run_convert_bytes_string w src dst e _ _ c hs he hd,run_bytesToString w _ l.length c _ hl',foldl_push_bytes];simp[strOf,ByteArray.empty,ByteArray.emptyWithCapacity,List.map_map,Function.comp_def];rfl
theorem yO{a b:ByteArray}:(a.toList==b.toList)=decide (a=b):=by
 rw[ByteArray.toList_eq,ByteArray.toList_eq,Bool.eq_iff_iff];simp only[beq_iff_eq,decide_eq_true_eq];constructor;·intro h;obtain⟨⟨a⟩⟩:=a;obtain⟨⟨b⟩⟩:=b;simp at h;rw[h]
 ·rintro rfl;rfl
section
theorem vC(w:World)(t:TypeId)(cs:Array Value): ∀j u,cs.toList[j]? =some u→(w.alloc (.cells cs t)).cell? ((⟨w.heap.size,0,none⟩:Addr).add j)=some u:=by
 intro j u hj;have e1:(⟨w.heap.size,0,none⟩:Addr).add j=⟨w.heap.size,j,none⟩:=by unfold Addr.add;split;(·rename_i h;subst h;rfl);·simp
 rw[e1,(ai.new w t cs).cell j];simpa using hj
theorem aJ{w:World}{t:TypeId}{g:Nat}(cs:List Value)(h:g=w.heap.size): ∀j u,cs[j]? =some u→(w.alloc (.cells cs.toArray t)).cell? ((⟨g,0,none⟩:Addr).add j)=some u:=by
 subst h;exact vC w t cs.toArray
theorem ai.cells{w:World}{g:Nat}{t:TypeId}{cs:Array Value}(h:ai w g t cs): ∀j u,cs.toList[j]? =some u→w.cell? ((⟨g,0,none⟩:Addr).add j)=some u:=by
 intro j u hj;have e1:(⟨g,0,none⟩:Addr).add j=⟨g,j,none⟩:=by unfold Addr.add;split;(·rename_i h;subst h;rfl);·simp
 rw[e1,h.cell j];simpa using hj
theorem ai.aF{w w':World}{B g:Nat}{t:TypeId}{cs:Array Value}(h:ai w g t cs)(hb:Below B w w')(hg:g<B):ai w' g t cs:=(hb.block g hg).trans h
theorem ai.at{w:World}{g:Nat}{t:TypeId}{cs:Array Value}(h:g=w.heap.size):ai (w.alloc (.cells cs t)) g t cs:=h▸ai.new w t cs
section
variable {α : Type} [aD α]
theorem ay.dF(w:World)(t:TypeId)(base g:Nat)(h:g=w.heap.size)(hb:base≤g):ay (α:=α) (w.alloc (.cells #[] t)) base t (.slice (some ⟨g,0,none⟩) 0 0) []:=by
 subst h;exact⟨[],⟨[],World.ownsRow_lit w #[] 0 hb (by simp) (by simp),⟨rfl,rfl⟩,by simp⟩,bL.nil _ _⟩
theorem c7.an{w:World}{base:Nat}{t:TypeId}{v:Value}{l:List α}{F:List Nat}(h:c7 w base t v l F): ∀g,v.ownBlock=some g→base≤g∧g<w.heap.size:=by
 intro g hg;obtain⟨A,c,rfl⟩:=h.form;cases A with|none=>cases hg|some a=>obtain⟨xs,h1,_⟩:=h;exact h1.lt g hg
theorem ay.an{w:World}{base:Nat}{t:TypeId}{v:Value}{l:List α}(h:ay w base t v l): ∀g,v.ownBlock=some g→base≤g∧g<w.heap.size:=h.choose_spec.1.an
theorem gI.an{w:World}{base:Nat}{t:TypeId}{v:Value}{l:List α}(h:gI w base t v l): ∀g,v.ownBlock=some g→base≤g∧g<w.heap.size:=h.choose_spec.1.an
theorem c7.alloc{w:World}{base:Nat}{t:TypeId}{v:Value}{l:List α}{F:List Nat}(h:c7 w base t v l F)(hF: ∀b,b∈F→b<w.heap.size)(o:Obj):c7 (w.alloc o) base t v l F:=h.below hF (ab (ae w) o)
theorem ay.alloc{w:World}{base:Nat}{t:TypeId}{v:Value}{l:List α}(h:ay w base t v l)(o:Obj):ay (w.alloc o) base t v l:=h.below (ab (ae w) o)
theorem gI.alloc{w:World}{base:Nat}{t:TypeId}{v:Value}{l:List α}(h:gI w base t v l)(o:Obj):gI (w.alloc o) base t v l:=h.below (ab (ae w) o)
theorem ay.drew{w:World}{base:Nat}{t:TypeId}{v:Value}{l:List α}(h:ay w base t v l):ay w.drew base t v l:=h.below (ae w).drew
theorem gI.drew{w:World}{base:Nat}{t:TypeId}{v:Value}{l:List α}(h:gI w base t v l):gI w.drew base t v l:=h.below (ae w).drew
theorem ay.set{w:World}{base:Nat}{t:TypeId}{v:Value}{l:List α}(h:ay w base t v l){p:Addr}(hp:p.block<base)(u:Value):ay (w.setCell p u) base t v l:=by
 obtain⟨F,h1,h2⟩:=h;have hlt:=h1.an;obtain⟨xs,h3,h4,h5⟩:=h1;refine⟨F,⟨xs,?_,h4.al fun b hb=>Below.heap_setCell w p u b (fun e=>by have:=(h2.2 b hb).1;omega),h5⟩,h2.set hp u⟩;obtain⟨h6,h7⟩:=h3;refine⟨h6,?_⟩;rcases h7 with h7|⟨g,cap,cur,rfl,hb,hh,h8,h9,h10,h11⟩;·exact .inl h7
 ·exact .inr ⟨g,cap,cur,rfl,hb,(Below.heap_setCell w p u g (fun e=>by omega)).trans hh,h8,h9,h10,h11⟩
theorem ay.mono{w:World}{base base':Nat}{t:TypeId}{v:Value}{l:List α}(h:ay w base t v l)(hb:base'≤base):ay w base' t v l:=by
 obtain⟨F,⟨xs,⟨h3,h6⟩,h4,h5⟩,h2⟩:=h;refine⟨F,⟨xs,⟨h3,?_⟩,h4,h5⟩,h2.mono hb⟩;rcases h6 with h7|⟨g,cap,cur,rfl,hb',h⟩;·exact .inl h7
 ·exact .inr ⟨g,cap,cur,rfl,by omega,h⟩
theorem ay.sG(w:World)(t:TypeId)(base:Nat)(hb:base≤w.heap.size):ay (α:=α) (w.alloc (.cells #[] t)) base t (.slice (some ⟨w.heap.size,0,none⟩) 0 0) []:=⟨[],⟨[],World.ownsRow_lit w #[] 0 hb (by simp) (by simp),⟨rfl,rfl⟩,by simp⟩,bL.nil _ _⟩
theorem ay.lF{w:World}{base:Nat}{a:α}{cs:List Value}(h:RF base w a cs)(t:TypeId)(hb:base≤w.heap.size):ay (w.alloc (.cells cs.toArray t)) base t (.slice (some ⟨w.heap.size,0,none⟩) 1 1) [a]:=by
 obtain⟨F,h1,h2⟩:=h;have hlt: ∀b,b∈F→b<w.heap.size:=fun b hb=>(h2.2 b hb).2.lt;refine⟨F,⟨cs,World.ownsRow_lit w cs.toArray 1 hb (by unfold maxLen;omega) (by simp[aD.len h1]),aL.single (aD.al h1 fun b hb=>Below.heap_alloc w _ b (hlt b hb)),fun g hg hm=> ?_⟩,h2.below (ab (ae w) _)⟩;simp only[Value.ownBlock,Option.some.injEq] at hg;have:=hlt g hm;omega
variable {P : Program} {W : World} {ops : Array Oper} {rest : List Oper} {o : Oper} {a : Act} {Q : Exit → Act → World → Prop}
theorem bM{W w':World}{base:Nat}{v:Value}(hg:W.grownBy w' v.ownBlock)(hB:base≤W.heap.size)(hr: ∀k,v.ownBlock=some k→base≤k):Below base W w':=Below.grown (Below.refl base W) hg hB hr
def wW(W:World)(base:Nat)(e:TypeId)(v:Value)(l:List α)(v':Value)(w':World):Prop:=ay w' base e v' l∧Below base W w'∧(v'.ownBlock=v.ownBlock∨v'.ownBlock=some W.heap.size)∧W.grownBy w' v.ownBlock
def zp(W:World)(base:Nat)(e:TypeId)(v:Value)(l:List α)(v':Value)(w':World):Prop:=gI w' base e v' l∧Below base W w'∧(v'.ownBlock=v.ownBlock∨v'.ownBlock=some W.heap.size)∧W.grownBy w' v.ownBlock
theorem fV(W:World)(row:Option Nat):W.grownBy W row:=⟨rfl,rfl,rfl,Nat.le_refl _,fun _ _ _=>rfl⟩
theorem ai.grown{W w':World}{row:Option Nat}{g:Nat}{t:TypeId}{cs:Array Value}(h:ai W g t cs)(hg:W.grownBy w' row)(hne:row≠some g):ai w' g t cs:=(hg.block g h.lt (fun e=>hne e.symm)).trans h
theorem fA(base:Nat)(t ty e:TypeId)(z:Value)(bytes:Nat)(ht:P.underlying t=some (.slice e))(hinfo:(P.info? e).map (fun i=>(i.zero,i.size,i.bytes))=some (some z,aD.wd α,bytes))(v:Value)(l:List α)(F:List Nat)(hown:c7 W base e v l F):(Builtin.append_ #[t,t] ty #[v,.slice none 0 0]).run P W=.ok v W:=by
 obtain⟨i,hi,hz,hsize,hby⟩:=info_parts hinfo;obtain⟨xs,h1,_⟩:=hown;exact run_append_owned_none (P:=P) (w:=W) base t ty e i (aD.wd α) ht hi v l.length xs h1
theorem fH(t ty:TypeId)(base:Nat)(e:TypeId)(z:Value)(bytes:Nat)(ht:P.underlying t=some (.slice e))(hinfo:(P.info? e).map (fun i=>(i.zero,i.size,i.bytes))=some (some z,aD.wd α,bytes))(hzs:z.cells.size=aD.wd α)(hsz:0<aD.wd α)(v:Value)(l ys:List α)(w0:World)(ad:Addr)(c:Nat)(F':List Nat)(news:List Value)(hown:ay w0 base e v l)(hb0:Below w0.heap.size w0 W)(hel:aL W ys F' news)(hr2:bL w0.heap.size W F')(hcells: ∀j u,news[j]? =some u→W.cell? (ad.add j)=some u)(hbytes:(l.length+ys.length)*bytes≤140737488355328)(h63:l.length+ys.length≤maxLen)(hbase:base≤w0.heap.size): ∃v' w',(Builtin.append_ #[t,t] ty #[v,.slice (some ad) ys.length c]).run P W=.ok v' w'∧wW W base e v (l++ys) v' w':=by
 obtain⟨i,hi,hz,hsize,hby⟩:=info_parts hinfo;obtain⟨F,hC,hFr⟩:=hown;have hlt: ∀b,b∈F→b<w0.heap.size:=fun b hm=>(hFr.2 b hm).2.lt;have hgl:=hC.an;obtain⟨xs,h1,h2,h3⟩:=hC.below hlt hb0;have hFr':=hFr.below hb0;have hbW:base≤W.heap.size:=Nat.le_trans hbase hb0.size;have hF: ∀g,v.ownBlock=some g→g∉F':=fun g hg hm=>by have:=(hr2.2 g hm).1;have:=(hgl g hg).2;omega
 have hltW: ∀b,b∈F++F'→b<W.heap.size:=fun b hm=>by rcases List.mem_append.1 hm with hm|hm;(·exact(hFr'.2 b hm).2.lt);·exact(hr2.2 b hm).2.lt
 obtain⟨v',w',hrun,h4,h5,_,h6⟩:=run_append_own_at (P:=P) W base t ty e i z (aD.wd α) bytes ht hi hz hsize hby hzs hsz v l.length xs h1 ad ys.length c news hel.len hcells hel.one h63 hbytes hbW;refine⟨v',w',hrun,⟨F++F',c7.grown h2 h3 hel hF hltW h4 h5 h6,?_,fun b hm=> ?_⟩,bM h5 hbW fun k hk=>(hgl k hk).1,h6,h5⟩;·rw[List.nodup_append];exact⟨hFr.1,hr2.1,fun x hx y hy e=>by have:=hlt x hx;have:=(hr2.2 y hy).1;omega⟩
 ·have hne:v.ownBlock≠some b:=fun e=>by rcases List.mem_append.1 hm with hm|hm;(·exact h3 b e hm);·exact hF b e hm
  have hk:=h5.block b (hltW b hm) (fun e=>hne e.symm);rcases List.mem_append.1 hm with hm|hm;·exact⟨(hFr.2 b hm).1,(hFr'.2 b hm).2.al hk⟩
  ·exact⟨by have:=(hr2.2 b hm).1;omega,(hr2.2 b hm).2.al hk⟩
theorem cS(t ty:TypeId)(base:Nat)(e:TypeId)(z:Value)(bytes:Nat)(ht:P.underlying t=some (.slice e))(hinfo:(P.info? e).map (fun i=>(i.zero,i.size,i.bytes))=some (some z,aD.wd α,bytes))(hzs:z.cells.size=aD.wd α)(hsz:0<aD.wd α)(v:Value)(l:List α)(el:α)(cs:List Value)(w0:World)(ad:Addr)(c:Nat)(hown:ay w0 base e v l)(hb0:Below w0.heap.size w0 W)(hr:RF w0.heap.size W el cs)(hcells: ∀j u,cs[j]? =some u→W.cell? (ad.add j)=some u)(hbytes:(l.length+1)*bytes≤140737488355328)(h63:l.length+1≤maxLen)(hbase:base≤w0.heap.size): ∃v' w',(Builtin.append_ #[t,t] ty #[v,.slice (some ad) 1 c]).run P W=.ok v' w'∧wW W base e v (l++[el]) v' w':=by
 obtain⟨F',h1,h2⟩:=hr;exact fH t ty base e z bytes ht hinfo hzs hsz v l [el] w0 ad c F' cs hown hb0 (aL.single h1) h2 hcells hbytes h63 hbase
theorem jq(t ty:TypeId)(base:Nat)(e:TypeId)(z:Value)(bytes:Nat)(ht:P.underlying t=some (.slice e))(hinfo:(P.info? e).map (fun i=>(i.zero,i.size,i.bytes))=some (some z,aD.wd α,bytes))(hzs:z.cells.size=aD.wd α)(hsz:0<aD.wd α)(v:Value)(l ys:List α)(w0:World)(A:Option Addr)(c:Nat)(hown:ay w0 base e v l)(hb0:Below w0.heap.size w0 W)(hr:SF w0.heap.size W ys A c)(hbytes:(l.length+ys.length)*bytes≤140737488355328)(h63:l.length+ys.length≤maxLen)(hbase:base≤w0.heap.size): ∃v' w',(Builtin.append_ #[t,t] ty #[v,.slice A ys.length c]).run P W=.ok v' w'∧wW W base e v (l++ys) v' w':=by
 obtain⟨F0,⟨hl1,hl2,hl3⟩,hr2⟩:=hr;rcases hl3 with⟨rfl,rfl,hn⟩|⟨b,off,F1,news,rfl,rfl,hel,hc⟩;·cases A with|none=>rw[hn rfl];have hown':=hown.below hb0;obtain⟨F,hC,hFr⟩:=hown';exact⟨v,W,fA base t ty e z bytes ht hinfo v l F hC,by rw[List.append_nil];exact⟨F,hC,hFr⟩,Below.refl _ _,.inl rfl,fV _ _⟩|some ad=>exact fH t ty base e z bytes ht hinfo hzs hsz v l [] w0 ad c [] [] hown hb0 ⟨rfl,rfl⟩ (bL.nil _ _) (fun j u hj=>by simp at hj) hbytes h63 hbase
 ·refine fH t ty base e z bytes ht hinfo hzs hsz v l ys w0 ⟨b,off,none⟩ c F1 news hown hb0 hel ⟨(List.nodup_cons.1 hr2.1).2,fun b hb=>hr2.2 b (List.mem_cons_of_mem _ hb)⟩ (fun j u hj=> ?_) hbytes h63 hbase;have e1:(⟨b,off,none⟩:Addr).add j=⟨b,off+j,none⟩:=by unfold Addr.add;split;(·rename_i h;subst h;rfl);·rfl
  rw[e1];exact hc j u hj
theorem aS(hP: ∀w F(a:α) cs,aD.rp w F a cs→F=[])(t ty:TypeId)(base:Nat)(e:TypeId)(z:Value)(bytes:Nat)(ht:P.underlying t=some (.slice e))(hinfo:(P.info? e).map (fun i=>(i.zero,i.size,i.bytes))=some (some z,aD.wd α,bytes))(hzs:z.cells.size=aD.wd α)(hsz:0<aD.wd α)(v:Value)(l ys:List α)(A:Option Addr)(c:Nat)(hown:ay W base e v l)(hr:SA W ys A c)(hbytes:(l.length+ys.length)*bytes≤140737488355328)(h63:l.length+ys.length≤maxLen)(hbase:base≤W.heap.size): ∃v' w',(Builtin.append_ #[t,t] ty #[v,.slice A ys.length c]).run P W=.ok v' w'∧wW W base e v (l++ys) v' w':=by
 have hE: ∀(ys:List α)(F:List Nat)(xs:List Value),aL W ys F xs→F=[]:=by intro ys;induction ys with|nil=>intro F xs h;exact h.1|cons a l ih=>rintro F xs ⟨F1,F2,cs,zs,rfl,rfl,h1,h2⟩;rw[hP _ _ _ _ h1,ih _ _ h2];rfl
 obtain⟨F0,⟨hl1,hl2,hl3⟩,hr2⟩:=hr;rcases hl3 with⟨rfl,rfl,hn⟩|⟨b,off,F1,news,rfl,rfl,hel,hc⟩;·cases A with|none=>rw[hn rfl];obtain⟨F,hC,hFr⟩:=hown;exact⟨v,W,fA base t ty e z bytes ht hinfo v l F hC,by rw[List.append_nil];exact⟨F,hC,hFr⟩,Below.refl _ _,.inl rfl,fV _ _⟩|some ad=>exact fH t ty base e z bytes ht hinfo hzs hsz v l [] W ad c [] [] hown (Below.refl _ _) ⟨rfl,rfl⟩ (bL.nil _ _) (fun j u hj=>by simp at hj) hbytes h63 hbase
 ·have hF1:=hE _ _ _ hel;subst hF1;refine fH t ty base e z bytes ht hinfo hzs hsz v l ys W ⟨b,off,none⟩ c [] news hown (Below.refl _ _) hel (bL.nil _ _) (fun j u hj=> ?_) hbytes h63 hbase;have e1:(⟨b,off,none⟩:Addr).add j=⟨b,off+j,none⟩:=by unfold Addr.add;split;(·rename_i h;subst h;rfl);·rfl
  rw[e1];exact hc j u hj
theorem tA(t ty:TypeId)(base:Nat)(e:TypeId)(z:Value)(bytes:Nat)(ht:P.underlying t=some (.slice e))(hinfo:(P.info? e).map (fun i=>(i.zero,i.size,i.bytes))=some (some z,aD.wd α,bytes))(hzs:z.cells.size=aD.wd α)(hsz:0<aD.wd α)(v:Value)(l ys:List α)(ad:Addr)(c:Nat)(F':List Nat)(news:List Value)(hown:gI W base e v l)(hel:aL W ys F' news)(hr2: ∀b,b∈F'→b<W.heap.size∧v.ownBlock≠some b)(hcells: ∀j u,news[j]? =some u→W.cell? (ad.add j)=some u)(hbytes:(l.length+ys.length)*bytes≤140737488355328)(h63:l.length+ys.length≤maxLen)(hbW:base≤W.heap.size): ∃v' w',(Builtin.append_ #[t,t] ty #[v,.slice (some ad) ys.length c]).run P W=.ok v' w'∧zp W base e v (l++ys) v' w':=by
 obtain⟨i,hi,hz,hsize,hby⟩:=info_parts hinfo;obtain⟨F,hC,hlt⟩:=hown;have hgl:=hC.an;obtain⟨xs,h1,h2,h3⟩:=hC;have hF: ∀g,v.ownBlock=some g→g∉F':=fun g hg hm=>(hr2 g hm).2 hg;have hltW: ∀b,b∈F++F'→b<W.heap.size:=fun b hm=>by rcases List.mem_append.1 hm with hm|hm;(·exact hlt b hm);·exact(hr2 b hm).1
 obtain⟨v',w',hrun,h4,h5,_,h6⟩:=run_append_own_at (P:=P) W base t ty e i z (aD.wd α) bytes ht hi hz hsize hby hzs hsz v l.length xs h1 ad ys.length c news hel.len hcells hel.one h63 hbytes hbW;exact⟨v',w',hrun,⟨F++F',c7.grown h2 h3 hel hF hltW h4 h5 h6,fun b hm=>Nat.lt_of_lt_of_le (hltW b hm) h5.size⟩,bM h5 hbW fun k hk=>(hgl k hk).1,h6,h5⟩
theorem uc(t ty:TypeId)(base:Nat)(e:TypeId)(z:Value)(bytes:Nat)(ht:P.underlying t=some (.slice e))(hinfo:(P.info? e).map (fun i=>(i.zero,i.size,i.bytes))=some (some z,aD.wd α,bytes))(hzs:z.cells.size=aD.wd α)(hsz:0<aD.wd α)(v:Value)(l:List α)(el:α)(cs:List Value)(ad:Addr)(c:Nat)(hown:gI W base e v l)(hr:RS W (fun b=>b<W.heap.size∧v.ownBlock≠some b) el cs)(hcells: ∀j u,cs[j]? =some u→W.cell? (ad.add j)=some u)(hbytes:(l.length+1)*bytes≤140737488355328)(h63:l.length+1≤maxLen)(hbW:base≤W.heap.size): ∃v' w',(Builtin.append_ #[t,t] ty #[v,.slice (some ad) 1 c]).run P W=.ok v' w'∧zp W base e v (l++[el]) v' w':=by
 obtain⟨F',h1,h2⟩:=hr;exact tA t ty base e z bytes ht hinfo hzs hsz v l [el] ad c F' cs hown (aL.single h1) h2 hcells hbytes h63 hbW
end

section
variable {P : Program} {W : World} {ops : Array Oper} {rest : List Oper} {o : Oper} {a : Act} {Q : Exit → Act → World → Prop} {R : Value → World → Prop}
theorem wF{K:Act→World→Prop}(s x:Operand)(t:TypeId)(ho:o.op=.call {callee:=.builtin .append,args:=#[s,x],argTypes:=#[t,t]}){v u:Value}(hs:a.eval s=v)(hx:a.eval x=u)(hrun: ∃v' w',(Builtin.append_ #[t,t] o.type #[v,u]).run P W=.ok v' w'∧R v' w')(h: ∀v' w',R v' w'→K (a.put o.dst v') w'):o.wp P a W K Q:=by
 obtain⟨v',w',hr,h1⟩:=hrun;unfold Oper.wp execOp;simp only[ho,resolve,invoke,builtin,Sem.run_bind,Sem.run_pure,Result.andThen_ok,List.map_toArray,List.map_cons,List.map_nil,hs,hx,hr];exact h v' w' h1
theorem aw(hgd:o.guard=none)(s x:Operand)(t:TypeId)(ho:o.op=.call {callee:=.builtin .append,args:=#[s,x],argTypes:=#[t,t]}){v u:Value}(hs:a.eval s=v)(hx:a.eval x=u)(hrun: ∃v' w',(Builtin.append_ #[t,t] o.type #[v,u]).run P W=.ok v' w'∧R v' w')(h: ∀v' w',R v' w'→wpList P ops Q rest (a.put o.dst v') w'):wpList P ops Q (o::rest) a W:=wpList_plain hgd fun _ hK=>wF s x t ho hs hx hrun fun v' w' hR=>hK _ _ (h v' w' hR)
theorem aX{K:Act→World→Prop}{E:Prop}(hgd:o.guard=none)(s x:Operand)(t:TypeId)(ho:o.op=.call {callee:=.builtin .append,args:=#[s,x],argTypes:=#[t,t]}){v u:Value}(hs:a.eval s=v)(hx:a.eval x=u)(hrun: ∃v' w',(Builtin.append_ #[t,t] o.type #[v,u]).run P W=.ok v' w'∧R v' w')(h: ∀v' w',R v' w'→K (a.put o.dst v') w'):if Region.wanted o (yielded ops a.tmps)=true then Oper.wp P o a W K Q else E:=by
 have hw:Region.wanted o (yielded ops a.tmps)=true:=by simp[Region.wanted,hgd]
 rw[if_pos hw];exact wF s x t ho hs hx hrun h
end
end
section
def Kept(F:List Nat)(w w':World):Prop:=w'.os=w.os∧w'.tape=w.tape∧w'.output=w.output∧w.heap.size≤w'.heap.size∧ ∀b,b<w.heap.size→b∉F→w'.heap[b]? =w.heap[b]?
theorem Kept.refl(F:List Nat)(w:World):Kept F w w:=⟨rfl,rfl,rfl,Nat.le_refl _,fun _ _ _=>rfl⟩
theorem Kept.trans{F:List Nat}{a b c:World}(h:Kept F a b)(k:Kept F b c):Kept F a c:=⟨k.1.trans h.1,k.2.1.trans h.2.1,k.2.2.1.trans h.2.2.1,Nat.le_trans h.2.2.2.1 k.2.2.2.1,fun x hx hF=>(k.2.2.2.2 x (Nat.lt_of_lt_of_le hx h.2.2.2.1) hF).trans (h.2.2.2.2 x hx hF)⟩
theorem Kept.mono{F F':List Nat}{w w':World}(h:Kept F w w')(hF: ∀b,b∈F→b∈F'):Kept F' w w':=⟨h.1,h.2.1,h.2.2.1,h.2.2.2.1,fun b hb hn=>h.2.2.2.2 b hb fun hm=>hn (hF b hm)⟩
theorem Kept.aA{F:List Nat}{w w':World}(h:Below w.heap.size w w'):Kept F w w':=⟨h.os,h.tape,h.output,h.size,fun b hb _=>h.block b hb⟩
theorem Kept.below{F:List Nat}{w w':World}{base:Nat}(h:Kept F w w')(hb:base≤w.heap.size)(hF: ∀b,b∈F→base≤b):Below base w w':=⟨h.1,h.2.1,h.2.2.1,h.2.2.2.1,fun b hlt=>h.2.2.2.2 b (by omega) fun hm=>by have:=hF b hm;omega⟩
theorem Kept.set{F:List Nat}{w:World}{p:Addr}(hp:p.block∈F)(u:Value):Kept F w (w.setCell p u):=⟨rfl,rfl,rfl,by simp[World.setCell],fun b _ hn=>Below.heap_setCell w p u b (fun e=>hn (e▸hp))⟩
section
variable {α : Type} [aD α]
def wH(base g off:Nat)(done rest:List α)(F:List Nat)(w:World):Prop:= ∃F1 F2 x1 x2,F=F1++F2∧aL w done F1 x1∧aL w rest F2 x2∧ba w g off (x1++x2)∧bL base w (g::F)
variable {base g off c : Nat} {done rest : List α} {F : List Nat} {w w' : World}
theorem wH.below(h:wH base g off done rest F w)(hb:Below w.heap.size w w'):wH base g off done rest F w':=by
 obtain⟨F1,F2,x1,x2,rfl,h1,h2,h3,h4⟩:=h;have hlt: ∀b,b∈g::(F1++F2)→b<w.heap.size:=fun b hm=>(h4.2 b hm).2.lt;exact⟨F1,F2,x1,x2,rfl,h1.al fun b hm=>hb.block b (hlt b (by simp[hm])),h2.al fun b hm=>hb.block b (hlt b (by simp[hm])),h3.al (hb.block g (hlt g (by simp))),h4.below hb⟩
end
def byteOf(n:Int):UInt8:=UInt8.ofNat (n%256).toNat
theorem fR(n:Int):((byteOf n).toNat:Int)=n%256:=by
 unfold byteOf;rw[UInt8.toNat_ofNat_of_lt' (by simp[UInt8.size];omega)];omega
end
end Go.Proofs.YtodpdjehjllhdaaGreatDoor
namespace Go.Proofs
open Go.Shelf
def Tryz.sE:Go.Shelf.Ren:=⟨fun|134=>352|129=>341|n=>n,fun|53=>211|3=>3|4=>4|46=>158|5=>5|9=>9|n=>n,fun|n=>n⟩
theorem Tryz.ye:Go.Proofs.Lays.n134 Tryz.prog Tryz.sE:={mixed:=by kernel_rfl,f129:=Tryz.func341.trans (congrArg some (by kernel_rfl)),f134:=Tryz.func352.trans (congrArg some (by kernel_rfl)),t3:=Tryz.underlying3,a3:=Tryz.isAgg3,z3:=Tryz.sizeOf3,v3:=Tryz.zeroValue3,t4:=Tryz.underlying4,a4:=Tryz.isAgg4,z4:=Tryz.sizeOf4,v4:=Tryz.zeroValue4,t5:=Tryz.underlying5,a5:=Tryz.isAgg5,z5:=Tryz.sizeOf5,v5:=Tryz.zeroValue5,t9:=Tryz.underlying9,a9:=Tryz.isAgg9,z9:=Tryz.sizeOf9,v9:=Tryz.zeroValue9,t46:=Tryz.underlying158,a46:=Tryz.isAgg158,z46:=Tryz.sizeOf158,v46:=Tryz.zeroValue158,t53:=Tryz.underlying211,a53:=Tryz.isAgg211,z53:=Tryz.sizeOf211,v53:=Tryz.zeroValue211}
theorem Tryz.bits_LeadingZeros64(x:Int)(w:World)(h0:0≤x)(h1:x≤18446744073709551615):Calls Tryz.prog 352 #[.int .u64 x] w fun e w'=>e=.returned (.int .i64 (64-(Lib.bitLen x.toNat:Int)))∧w'=w:=Any.bits_LeadingZeros64 Tryz.ye x w h0 h1
def Tryz.sB:Go.Shelf.Ren:=⟨fun|196=>242|259=>276|n=>n,fun|9=>9|4=>4|3=>3|5=>5|12=>12|119=>204|0=>0|46=>158|139=>207|138=>206|53=>211|n=>n,fun|3=>0|4=>1|n=>n⟩
theorem Tryz.um:Go.Proofs.Lays.n196 Tryz.prog Tryz.sB:={mixed:=by kernel_rfl,f196:=Tryz.func242.trans (congrArg some (by kernel_rfl)),f259:=Tryz.func276.trans (congrArg some (by kernel_rfl)),t0:=Tryz.underlying0,a0:=Tryz.isAgg0,z0:=Tryz.sizeOf0,v0:=Tryz.zeroValue0,t3:=Tryz.underlying3,a3:=Tryz.isAgg3,z3:=Tryz.sizeOf3,v3:=Tryz.zeroValue3,t4:=Tryz.underlying4,a4:=Tryz.isAgg4,z4:=Tryz.sizeOf4,v4:=Tryz.zeroValue4,t5:=Tryz.underlying5,a5:=Tryz.isAgg5,z5:=Tryz.sizeOf5,v5:=Tryz.zeroValue5,t9:=Tryz.underlying9,a9:=Tryz.isAgg9,z9:=Tryz.sizeOf9,v9:=Tryz.zeroValue9,t12:=Tryz.underlying12,a12:=Tryz.isAgg12,z12:=Tryz.sizeOf12,v12:=Tryz.zeroValue12,t46:=Tryz.underlying158,a46:=Tryz.isAgg158,z46:=Tryz.sizeOf158,v46:=Tryz.zeroValue158,t53:=Tryz.underlying211,a53:=Tryz.isAgg211,z53:=Tryz.sizeOf211,v53:=Tryz.zeroValue211,t119:=Tryz.underlying204,a119:=Tryz.isAgg204,z119:=Tryz.sizeOf204,t138:=Tryz.underlying206,a138:=Tryz.isAgg206,z138:=Tryz.sizeOf206,v138:=Tryz.zeroValue206,t139:=Tryz.underlying207,a139:=Tryz.isAgg207,z139:=Tryz.sizeOf207,v139:=Tryz.zeroValue207,g3:=by kernel_rfl,g4:=by kernel_rfl}
open Go.RowKit in theorem Tryz.utf8_ValidString(s:ByteArray)(w:World)(hs:s.size≤9223372036854775807)(hT:Lib.Utf8Tabs 0 1 w):Calls Tryz.prog 242 #[.string s] w fun e w'=>e=.returned (.bool (Lib.validD s.data.toList))∧Below w.heap.size w w':=Any.utf8_ValidString Tryz.um s w hs hT
def Tryz.yC:Go.Shelf.Ren:=⟨fun|210=>353|206=>350|n=>n,fun|9=>9|4=>4|3=>3|n=>n,fun|n=>n⟩
def Tryz.yF:Go.Shelf.Ren:=⟨fun|215=>161|n=>n,fun|3=>3|4=>4|n=>n,fun|n=>n⟩
def Tryz.sJ:Go.Shelf.Ren:=⟨fun|122=>99|215=>161|n=>n,fun|3=>3|4=>4|n=>n,fun|n=>n⟩
theorem Tryz.xN:Go.Proofs.Lays.n122 Tryz.prog Tryz.sJ:={mixed:=by kernel_rfl,f122:=Tryz.func99.trans (congrArg some (by kernel_rfl)),f215:=Tryz.func161.trans (congrArg some (by kernel_rfl)),t3:=Tryz.underlying3,a3:=Tryz.isAgg3,z3:=Tryz.sizeOf3,v3:=Tryz.zeroValue3,t4:=Tryz.underlying4,a4:=Tryz.isAgg4,z4:=Tryz.sizeOf4,v4:=Tryz.zeroValue4}
open Go.RowKit in theorem Tryz.cmp_Compare_int(x y:Int)(w:World):Calls Tryz.prog 99 #[.int .i64 x,.int .i64 y] w fun e w'=>e=.returned (.int .i64 (Lib.compareInt x y))∧w'=w:=Any.cmp_Compare_int Tryz.xN x y w
def Tryz.yc:Go.Shelf.Ren:=⟨fun|246=>267|283=>307|284=>308|285=>309|286=>310|129=>341|317=>340|318=>342|319=>343|320=>344|337=>361|338=>362|n=>n,fun|2=>2|3=>3|9=>9|4=>4|171=>225|0=>0|53=>211|37=>22|5=>5|173=>228|212=>244|51=>245|20=>20|213=>246|46=>158|232=>254|233=>255|n=>n,fun|17=>3|18=>6|19=>7|n=>n⟩
def Tryz.ya:Go.Shelf.Ren:=⟨fun|243=>226|246=>267|283=>307|284=>308|285=>309|286=>310|129=>341|317=>340|318=>342|319=>343|320=>344|337=>361|338=>362|n=>n,fun|3=>3|9=>9|2=>2|4=>4|171=>225|0=>0|53=>211|37=>22|5=>5|173=>228|212=>244|51=>245|20=>20|213=>246|46=>158|232=>254|233=>255|n=>n,fun|17=>3|18=>6|19=>7|n=>n⟩
def Tryz.qx:Go.Shelf.Ren:=⟨fun|171=>164|243=>226|246=>267|283=>307|284=>308|285=>309|286=>310|129=>341|317=>340|318=>342|319=>343|320=>344|337=>361|338=>362|n=>n,fun|3=>3|9=>9|2=>2|4=>4|171=>225|0=>0|53=>211|37=>22|5=>5|173=>228|212=>244|51=>245|20=>20|213=>246|46=>158|232=>254|233=>255|n=>n,fun|17=>3|18=>6|19=>7|n=>n⟩
theorem Tryz.wq:Go.Proofs.LaysM.n171 Tryz.prog Tryz.qx:={mixed:=by kernel_rfl,f129:=Tryz.func341.trans (congrArg some (by kernel_rfl)),f171:=Tryz.func164.trans (congrArg some (by kernel_rfl)),f243:=Tryz.func226.trans (congrArg some (by kernel_rfl)),f246:=Tryz.func267.trans (congrArg some (by kernel_rfl)),f283:=Tryz.func307.trans (congrArg some (by kernel_rfl)),f284:=Tryz.func308.trans (congrArg some (by kernel_rfl)),f285:=Tryz.func309.trans (congrArg some (by kernel_rfl)),f286:=Tryz.func310.trans (congrArg some (by kernel_rfl)),f317:=Tryz.func340.trans (congrArg some (by kernel_rfl)),f318:=Tryz.func342.trans (congrArg some (by kernel_rfl)),f319:=Tryz.func343.trans (congrArg some (by kernel_rfl)),f320:=Tryz.func344.trans (congrArg some (by kernel_rfl)),f337:=Tryz.func361.trans (congrArg some (by kernel_rfl)),f338:=Tryz.func362.trans (congrArg some (by kernel_rfl)),t0:=Tryz.underlying0,a0:=Tryz.isAgg0,z0:=Tryz.sizeOf0,v0:=Tryz.zeroValue0,t2:=Tryz.underlying2,a2:=Tryz.isAgg2,z2:=Tryz.sizeOf2,v2:=Tryz.zeroValue2,t3:=Tryz.underlying3,a3:=Tryz.isAgg3,z3:=Tryz.sizeOf3,v3:=Tryz.zeroValue3,t4:=Tryz.underlying4,a4:=Tryz.isAgg4,z4:=Tryz.sizeOf4,v4:=Tryz.zeroValue4,t5:=Tryz.underlying5,a5:=Tryz.isAgg5,z5:=Tryz.sizeOf5,v5:=Tryz.zeroValue5,t9:=Tryz.underlying9,a9:=Tryz.isAgg9,z9:=Tryz.sizeOf9,v9:=Tryz.zeroValue9,t20:=Tryz.underlying20,a20:=Tryz.isAgg20,z20:=Tryz.sizeOf20,v20:=Tryz.zeroValue20,t37:=Tryz.underlying22,a37:=Tryz.isAgg22,z37:=Tryz.sizeOf22,v37:=Tryz.zeroValue22,t46:=Tryz.underlying158,a46:=Tryz.isAgg158,z46:=Tryz.sizeOf158,v46:=Tryz.zeroValue158,t51:=Tryz.underlying245,a51:=Tryz.isAgg245,z51:=Tryz.sizeOf245,v51:=Tryz.zeroValue245,t53:=Tryz.underlying211,a53:=Tryz.isAgg211,z53:=Tryz.sizeOf211,v53:=Tryz.zeroValue211,t171:=Tryz.underlying225,a171:=Tryz.isAgg225,z171:=Tryz.sizeOf225,v171:=Tryz.zeroValue225,t173:=Tryz.underlying228,a173:=Tryz.isAgg228,z173:=Tryz.sizeOf228,v173:=Tryz.zeroValue228,t212:=Tryz.underlying244,a212:=Tryz.isAgg244,z212:=Tryz.sizeOf244,v212:=Tryz.zeroValue244,t213:=Tryz.underlying246,a213:=Tryz.isAgg246,z213:=Tryz.sizeOf246,t232:=Tryz.underlying254,a232:=Tryz.isAgg254,z232:=Tryz.sizeOf254,v232:=Tryz.zeroValue254,t233:=Tryz.underlying255,a233:=Tryz.isAgg255,z233:=Tryz.sizeOf255,v233:=Tryz.zeroValue255,g17:=by kernel_rfl,g18:=by kernel_rfl,g19:=by kernel_rfl,i0:=by kernel_rfl,i2:=by kernel_rfl,i3:=by kernel_rfl,i4:=by kernel_rfl,i5:=by kernel_rfl,i9:=by kernel_rfl,i20:=by kernel_rfl,i37:=by kernel_rfl,i46:=by kernel_rfl,i51:=by kernel_rfl,i53:=by kernel_rfl,i171:=by kernel_rfl,i173:=by kernel_rfl,i212:=by kernel_rfl,i232:=by kernel_rfl,i233:=by kernel_rfl,m17:=by kernel_rfl,m18:=by kernel_rfl,m19:=by kernel_rfl}
open Go.RowKit Go.Sort Go.Lib in theorem Tryz.strconv_Itoa(n:Int)(h0: -9223372036854775808≤n)(h1:n≤9223372036854775807)(w:World)(htab:Lib.TabIs Tryz.prog w "internal/strconv.uint64pow10" .u64 Lib.pow10Tab):Calls Tryz.prog 164 #[.int .i64 n] w fun e w'=>e=.returned (.string ⟨(Lib.itoa n).toArray⟩)∧ ∃k os,w'=grow (w.drewN k) os:=Any.strconv_Itoa Tryz.wq n h0 h1 w htab
def Tryz.sN:Go.Shelf.Ren:=⟨fun|101=>277|208=>319|206=>350|n=>n,fun|9=>9|4=>4|3=>3|n=>n,fun|n=>n⟩
theorem Tryz.yg:Go.Proofs.Lays.n101 Tryz.prog Tryz.sN:={mixed:=by kernel_rfl,f101:=Tryz.func277.trans (congrArg some (by kernel_rfl)),f206:=Tryz.func350.trans (congrArg some (by kernel_rfl)),f208:=Tryz.func319.trans (congrArg some (by kernel_rfl)),t3:=Tryz.underlying3,a3:=Tryz.isAgg3,z3:=Tryz.sizeOf3,v3:=Tryz.zeroValue3,t4:=Tryz.underlying4,a4:=Tryz.isAgg4,z4:=Tryz.sizeOf4,v4:=Tryz.zeroValue4,t9:=Tryz.underlying9,a9:=Tryz.isAgg9,z9:=Tryz.sizeOf9,v9:=Tryz.zeroValue9}
open Go.RowKit Go.Lib in theorem Tryz.strings_TrimPrefix(s p:ByteArray)(w:World):Calls Tryz.prog 277 #[.string s,.string p] w fun e w'=>e=.returned (.string ⟨(Lib.trimPrefix s.data.toList p.data.toList).toArray⟩)∧w'=w:=Any.strings_TrimPrefix Tryz.yg s p w
def Tryz.qZ:Go.Shelf.Ren:=⟨fun|264=>285|n=>n,fun|53=>211|46=>158|n=>n,fun|n=>n⟩
theorem Tryz.x8:Go.Proofs.Lays.n264 Tryz.prog Tryz.qZ:={mixed:=by kernel_rfl,f264:=Tryz.func285.trans (congrArg some (by kernel_rfl)),t46:=Tryz.underlying158,a46:=Tryz.isAgg158,z46:=Tryz.sizeOf158,v46:=Tryz.zeroValue158,t53:=Tryz.underlying211,a53:=Tryz.isAgg211,z53:=Tryz.sizeOf211,v53:=Tryz.zeroValue211}
open Go.RowKit Go.Lib in theorem Tryz.bits_Mul64(x y:Nat)(hx:x<18446744073709551616)(hy:y<18446744073709551616)(w:World):Calls Tryz.prog 285 #[.int .u64 x,.int .u64 y] w fun e w'=>e=.returned (.tuple #[.int .u64 ((x*y/18446744073709551616:Nat):Int),.int .u64 ((x*y%18446744073709551616:Nat):Int)])∧w'=w:=Any.bits_Mul64 Tryz.x8 x y hx hy w
end Go.Proofs
namespace Go.Proofs.YtodpdjehjllhdaaGreatDoor
open Go.RowKit
end Go.Proofs.YtodpdjehjllhdaaGreatDoor
