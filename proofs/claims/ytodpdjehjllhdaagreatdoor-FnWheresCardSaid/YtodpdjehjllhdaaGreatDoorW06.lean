/- Part of a proof: contracts and plain laws. -/
import Derived.Test.YtodpdjehjllhdaaGreatDoorW05
set_option linter.unusedVariables false
set_option linter.unusedSimpArgs false
set_option maxRecDepth 100000
set_option maxHeartbeats 20000000
namespace Go.Proofs.YtodpdjehjllhdaaGreatDoor
open Go.RowKit
structure aG where
  at_ : Int
  name : aa
  ls : List ag
  gone : Bool
instance : Inhabited aG := ⟨⟨0, ⟨0, 0, 0, .empty, []⟩, [], false⟩⟩
instance : aD aG where
  wd := 8
  rp := fun w F x cs => ∃ F1 F2 c1 A c, F = F1 ++ F2 ∧ cs = .int .i64 x.at_ :: (c1 ++ [.slice A x.ls.length c, .bool x.gone]) ∧ aT x.at_ ∧ aD.rp w F1 x.name c1 ∧ uo w F2 x.ls A c
  len := by rintro _ _ _ _ ⟨_, _, c1, _, _, _, rfl, _, h, _⟩; have := aD.len h; simp [this]; rfl
  one := by
    rintro _ _ _ _ ⟨_, _, c1, _, _, _, rfl, _, h, _⟩ u hu
    simp only [List.mem_cons, List.mem_append, List.not_mem_nil, or_false] at hu
    rcases hu with rfl | hu | rfl | rfl
    · rfl
    · exact aD.one h u hu
    · rfl
    · rfl
  al := by
    rintro _ _ _ _ _ ⟨F1, F2, c1, A, c, rfl, rfl, hI, h1, h2⟩ hk
    exact ⟨F1, F2, c1, A, c, rfl, rfl, hI, aD.al h1 fun b hb => hk b (List.mem_append_left _ hb), h2.al fun b hb => hk b (List.mem_append_right _ hb)⟩
theorem RS.conv{w:World}{S:Nat→Prop}{x:aG}{cs:List Value}(h:RS w S x cs): ∃A c A' c',cs=[.int .i64 x.at_,.int .i64 x.name.kind,.int .i64 x.name.n,.int .i64 x.name.x,.string x.name.s,.slice A x.name.l.length c,.slice A' x.ls.length c',.bool x.gone]∧aT x.at_∧bq x.name∧SS w S x.name.l A c∧SS w S x.ls A' c':=by
 obtain⟨F,⟨F1,F2,c1,A',c',rfl,rfl,hI,h1,h2⟩,hF⟩:=h;obtain⟨A,c,rfl,h3,h4⟩:=cZ.1 h1;exact⟨A,c,A',c',rfl,hI,h3,⟨F1,h4,fun b hb=>hF b (List.mem_append_left _ hb)⟩,⟨F2,h2,fun b hb=>hF b (List.mem_append_right _ hb)⟩⟩
theorem RS.xH{w:World}{S:Nat→Prop}{x:aG}{A A':Option Addr}{c c':Nat}(hI:aT x.at_)(hV:bq x.name)(h1:SS w S x.name.l A c)(h2:SS w S x.ls A' c'):RS w S x [.int .i64 x.at_,.int .i64 x.name.kind,.int .i64 x.name.n,.int .i64 x.name.x,.string x.name.s,.slice A x.name.l.length c,.slice A' x.ls.length c',.bool x.gone]:=by
 obtain⟨F1,h3,h4⟩:=h1;obtain⟨F2,h5,h6⟩:=h2;refine⟨F1++F2,⟨F1,F2,_,A',c',rfl,rfl,hI,cZ.2 ⟨A,c,rfl,hV,h3⟩,h5⟩,fun b hb=> ?_⟩;rcases List.mem_append.1 hb with hb|hb;·exact h4 b hb
 ·exact h6 b hb
def eg(c:ah)(g:Bool):aG:=⟨c.at_,c.name,c.nl,g⟩
def lj:List ah→List aG|[]=>[]|c::l=>eg c (cG c l)::lj l
theorem jk: ∀cs,(lj cs).length=cs.length|[]=>rfl|c::l=>by rw[lj,List.length_cons,List.length_cons,jk l]
theorem rz: ∀(cs:List ah)(i:Nat)(h:i<cs.length),(lj cs)[i]'(by rw[jk];exact h)=eg cs[i] (cG cs[i] (cs.drop (i+1)))|c::l,0,h=>by simp[lj]|c::l,i+1,h=>by simp only[lj,List.getElem_cons_succ];rw[rz l i (by simpa using h)];simp
theorem kb : ∀ cs, (lj cs).filter (fun c => !c.gone) = (au cs).map (eg · false)
  | [] => rfl
  | c :: l => by
    rw [lj, au]
    cases h : cG c l
    · rw [List.filter_cons_of_pos (by simp [eg]), if_neg (by simp), List.map_cons, kb l]
    · rw [List.filter_cons_of_neg (by simp [eg]), if_pos rfl, kb l]
theorem vj{l:List Nat}(h:l.Nodup){m:List Nat}(hp:l.Perm m)(hm:m.Pairwise (·< ·)):l.Pairwise (·≤ ·)↔l=m:=by
 constructor;·intro hl;refine List.Perm.eq_of_pairwise (le:=(·≤ ·)) (fun a b _ _ h1 h2=>Nat.le_antisymm h1 h2) hl (hm.imp fun h=>Nat.le_of_lt h) hp
 ·rintro rfl;exact hm.imp fun h=>Nat.le_of_lt h
theorem fa: ∀cs:List ah,(au cs).Sublist cs|[]=>.slnil|c::cs=>by rw[au];split;(·exact(fa cs).cons c);·exact(fa cs).cons_cons c
theorem vw(way:Int)(l:List aa)(p:List GStep):((au (bX way l p)).map ah.at_).Pairwise (·< ·):=by
 have h0:((bX way l p).map ah.at_).Pairwise (·< ·):=by unfold bX;rw[jn];exact List.pairwise_lt_range'
 exact List.Pairwise.sublist ((fa _).map _) h0
theorem ti(way:Int)(l:List aa)(p:List GStep):((aZ way (au (bX way l p))).map ah.at_).Pairwise (·≤ ·)↔(aZ way (au (bX way l p))).map ah.at_=(au (bX way l p)).map ah.at_:=by
 have hr:=vw way l p;have hp:=(dJ way (au (bX way l p))).map ah.at_;exact vj (hp.nodup_iff.2 (hr.imp fun h=>Nat.ne_of_lt h)) hp hr
theorem q9(p:List GStep): ∀(cs:List ah)(i:Nat)(h:i<cs.length),cf p (cs.drop i)=(if cG cs[i] (cs.drop (i+1)) then[⟨8,p++[⟨cs[i].at_,true⟩]⟩] else cs[i].nl)++cf p (cs.drop (i+1)):=by
 intro cs i h;rw[List.drop_eq_getElem_cons h,cf]
def qc:aa:=⟨0,0,0,.empty,[]⟩
theorem dN{v:aa}(h:valOkP v=true)(hs:v.s.size≤maxLen):bq v:=by
 have ho:=(aQ h).1;have hd:aV v.n v.x=true→aT v.n∧aT v.x:=fun h=>by unfold aV at h;split at h;(·rename_i e;rw[decide_eq_true_iff] at h;exact⟨⟨by omega,by omega⟩,by rw[e];exact aT.zero⟩);·rw[Bool.and_eq_true,Bool.and_eq_true,decide_eq_true_iff,decide_eq_true_iff,jy] at h;exact⟨⟨by omega,by omega⟩,⟨by omega,by omega⟩⟩
 have hf:bh v.n v.x=true→aT v.n∧aT v.x:=fun h=>by rcases mE h with⟨e1,e2⟩|h;(·rw[e1,e2];exact⟨aT.zero,aT.zero⟩);·exact⟨⟨by omega,by omega⟩,⟨by omega,by omega⟩⟩
 have z:aT 0:=aT.zero;have key:aT v.kind∧aT v.n∧aT v.x:=by(have hk:v.kind=1∨v.kind=2∨v.kind=3∨v.kind=4∨v.kind=5∨v.kind=6∨v.kind=7∨v.kind=8∨v.kind=9∨v.kind=10∨v.kind=11∨ ¬(1≤v.kind∧v.kind≤11):=by omega);unfold af at ho;rcases hk with hk|hk|hk|hk|hk|hk|hk|hk|hk|hk|hk|hk;(all_goals first|(rw[if_neg (by omega),if_neg (by omega),if_neg (by omega),if_neg (by omega),if_neg (by omega),if_neg (by omega),if_neg (by omega),if_neg (by omega),if_neg (by omega),if_neg (by omega),if_neg (by omega)] at ho;cases ho;done)|(simp only[hk] at ho;simp at ho;rw[hk]));(·rw[ho.1,ho.2.1];exact⟨⟨by omega,by omega⟩,z,z⟩);(·rw[ho.2.1];exact⟨⟨by omega,by omega⟩,⟨by omega,by omega⟩,z⟩);(·rw[ho.2.1];exact⟨⟨by omega,by omega⟩,⟨by omega,by omega⟩,z⟩);(·exact⟨⟨by omega,by omega⟩,hf ho.1⟩);(·rw[ho.2.1];exact⟨⟨by omega,by omega⟩,⟨by omega,by omega⟩,z⟩);(·exact⟨⟨by omega,by omega⟩,hd ho.1⟩);(·rw[ho.1.1,ho.1.2];exact⟨⟨by omega,by omega⟩,z,z⟩);(·rw[ho.1,ho.2.1];exact⟨⟨by omega,by omega⟩,z,z⟩);(·rw[ho.1,ho.2.1];exact⟨⟨by omega,by omega⟩,z,z⟩);(·rw[ho.1,ho.2.1];exact⟨⟨by omega,by omega⟩,z,z⟩);·rw[ho.2.1];exact⟨⟨by omega,by omega⟩,⟨by omega,by omega⟩,z⟩
 exact⟨key.1,key.2.1,key.2.2,hs⟩
def jG(v:aa):Prop:=bq v∧fU v∧depG v≤4∧potG v≤10000∧bulkVal v≤40000
theorem sR:jG qc:=by
 refine⟨⟨aT.zero,aT.zero,aT.zero,by simp[qc]⟩,fU.of (fun h=>absurd h (by decide)) (by intro u hu;simp[qc,preL] at hu),by rw[ed];simp[qc,depL],by rw[aR];simp[qc,potL],by rw[av];simp[qc,bulkVals]⟩
theorem pg{way:Int}{v:aa}(h:jG v):jG (cK way v).1:=by
 unfold cK;split;·rename_i hc;obtain⟨h1,h2,h3,h4,h5⟩:=h;obtain⟨k1,k2,k3,k4⟩:=dc way v hc.1 h2 [];exact⟨dN k1 (by have:=bm _ k1;rw[av] at this;show(projP way v []).1.s.size≤maxLen;unfold maxLen;omega),k2,by simp only;omega,by simp only;omega,by have:=bm _ k1;simp only;omega⟩
 ·exact sR
def under(p:List GStep)(x:ag):ag:=⟨x.kind,p++x.p⟩
def cH(p:List GStep)(c:ah):ah:=⟨c.at_,c.name,c.nl.map (under p),c.val,c.vl.map (under p)⟩
def dC(p:List GStep)(r:aa×List ag):aa×List ag:=(r.1,r.2.map (under p))
theorem ic(p:List GStep): ∀(r:List (aa×List ag))(i:Nat),aE (r.map (dC p)) i=(aE r i).map (cH p)|a::b::l,i=>by rw[List.map_cons,List.map_cons,aE,aE,List.map_cons,ic p l (i+1)];rfl|[a],i=>by simp[aE]|[],i=>by simp[aE]
theorem mA(p:List GStep)(c:ah)(l:List ah):cG (cH p c) (l.map (cH p))=cG c l:=by
 unfold cG;rw[List.any_map];rfl
theorem iP(p:List GStep): ∀l:List ah,au (l.map (cH p))=(au l).map (cH p)|[]=>rfl|c::l=>by rw[List.map_cons,au,au,mA,iP p l];split<;>simp
theorem lh(p:List GStep)(x:ah): ∀l:List ah,cI aU (cH p x) (l.map (cH p))=(cI aU x l).map (cH p)|[]=>rfl|y::l=>by rw[List.map_cons,cI,cI,lh p x l];have e:aU (cH p x) (cH p y)=aU x y:=rfl;rw[e];split<;>simp
theorem ll(p:List GStep): ∀(l q:List ah),aq aU (q.map (cH p)) (l.map (cH p))=(aq aU q l).map (cH p)|[],q=>rfl|x::l,q=>by rw[List.map_cons,aq,aq,←ll p l];congr 1;unfold cw;rw[←List.map_reverse,lh,List.map_reverse]
theorem my(p:List GStep)(way:Int)(l:List ah):aZ way (l.map (cH p))=(aZ way l).map (cH p):=by
 unfold aZ;split;·exact ll p l []
 ·rfl
theorem iJ(p q:List GStep): ∀l:List ah,aY (p++q) (l.map (cH p))=(aY q l).map (under p)|[]=>rfl|c::l=>by rw[List.map_cons,aY,aY,mA,iJ p q l,List.map_append];congr 1;split;(·simp[under,cH]);·simp[cH]
theorem tt(way:Int)(p q:List GStep)(cs:List ah):eF way (cs.map (cH p)) (p++q)=dC p (eF way cs q):=by
 unfold eF dC;rw[iP,my,iJ];have e1: ∀l:List ah,(l.map (cH p)).flatMap (fun c=>[c.name,c.val])=l.flatMap (fun c=>[c.name,c.val]):=fun l=>by rw[List.flatMap_map];rfl
 have e2: ∀l:List ah,(l.map (cH p)).map ah.at_=l.map ah.at_:=fun l=>by rw[List.map_map];rfl
 rw[e1,e2,e2];simp only[List.map_append];congr 2;split;·rfl
 ·simp[under]
theorem gb(way:Int)(p:List GStep)(v:aa): ∀q,projP way v (p++q)=dC p (projP way v q):=by
 refine aa.ind (p:=fun v=> ∀q,projP way v (p++q)=dC p (projP way v q)) (fun v IH q=> ?_) v;have hE: ∀(k:Int)(i:Nat)(a:aa),(∀q,projP way a (p++q)=dC p (projP way a q))→cU way k a i (p++q)=dC p (cU way k a i q):=by intro k i a h;unfold cU;split;(·unfold dC;simp only;split;(·rfl);·simp[under]);·rw[←h,List.append_assoc]
 have hL: ∀(k:Int)(l:List aa)(i:Nat),(∀a∈l,∀q,projP way a (p++q)=dC p (projP way a q))→projL way k l i (p++q)=(projL way k l i q).map (dC p):=by intro k l;induction l with|nil=>intro i _;simp[projL]|cons a l ih=>intro i h;rw[cD,cD,List.map_cons,hE k i a (h a (by simp)),ih (i+1) (fun b hb=>h b (by simp[hb]))]
 have hA: ∀a∈v.l,∀q,projP way a (p++q)=dC p (projP way a q):=fun a ha=>by obtain⟨i,hi,e⟩:=List.getElem_of_mem ha;rw[←e];exact IH i hi
 have e1: ∀r:List (aa×List ag),(r.map (dC p)).map (·.1)=r.map (·.1):=fun r=>by rw[List.map_map];rfl
 have e2: ∀r:List (aa×List ag),(r.map (dC p)).flatMap (·.2)=(r.flatMap (·.2)).map (under p):=fun r=>by rw[List.flatMap_map,List.map_flatMap];rfl
 obtain⟨k,n,x,s,l⟩:=v;rw[projP,projP];split;·rw[hL 10 l 0 hA,ic,tt]
 ·split;·rw[hL 9 l 0 hA,e1,e2];rfl
  ·split
   ·rw[hL 11 l 0 hA];split;·rw[e1,e2];rfl
    ·rw[e2];unfold dC;simp only[List.head?_map,Option.map_map,List.map_append];congr 1
   ·unfold dC;simp only;congr 1;split;·rfl
    ·simp[under]
theorem rS{way:Int}{v:aa}{p:List GStep}{x:ag}(h:x∈(projP way v p).2):p <+: x.p:=by
 have e:=gb way p v [];rw[List.append_nil] at e;rw[e] at h;obtain⟨y,_,rfl⟩:=List.mem_map.1 h;exact⟨y.p,rfl⟩
theorem vm(way:Int)(l:List aa)(p:List GStep):bX way l p=(bX way l []).map (cH p):=by
 unfold bX;rw[←ic];congr 1;have: ∀(l:List aa)(i:Nat),projL way 10 l i p=(projL way 10 l i []).map (dC p):=by intro l;induction l with|nil=>intro i;simp[projL]|cons a l ih=>intro i;rw[cD,cD,List.map_cons,ih (i+1)];congr 1;unfold cU;split;(·unfold dC;simp only;split;(·rfl);·simp[under]);·have h:=gb way p a ([]++[gB 10 i]);rw[←h];simp
 exact this l 0
def aM(way:Int)(v:aa):List GStep→Option (List GStep)|[]=>some []|s::p=>(stepG v s).bind fun x=>if v.kind=10 then((aZ way (au (bX way v.l []))).findIdx? fun c=>decide ((c.at_:Int)=s.at_)).bind fun i=>if s.name=true∧bn way=true∧p≠[] then none else(aM way x p).map (⟨(i:Int),s.name⟩:: ·) else if v.kind=11 then(aM way x p).map fun r=>if way=2 then s::r else r else(aM way x p).map (s:: ·)
def uJ(l:List ag)(p:List GStep):Bool:=l.any fun x=>p.isPrefixOf x.p
theorem jQ{c:ah}{l:List ah}{i:Nat}(h:i<l.length)(e:l[i].name=c.name):cG c l=true:=by
 unfold cG;exact List.any_eq_true.2 ⟨l[i],List.getElem_mem h,by simpa using e⟩
theorem qa: ∀(cs:List ah)(c:ah),c∈au cs↔ ∃i,∃h:i<cs.length,c=cs[i]∧cG cs[i] (cs.drop (i+1))=false|[],c=>by simp[au]|d::cs,c=>by have ih:=qa cs c;rw[au];constructor;(·intro h;split at h;(·obtain⟨i,hi,e,g⟩:=ih.1 h;exact⟨i+1,by simpa using hi,by simpa using e,by simpa using g⟩);·rename_i hg;rcases List.mem_cons.1 h with rfl|h;(·exact⟨0,by simp,by simp,by simpa using hg⟩);·obtain⟨i,hi,e,g⟩:=ih.1 h;exact⟨i+1,by simpa using hi,by simpa using e,by simpa using g⟩);·rintro⟨i,hi,e,g⟩;cases i with|zero=>simp only[List.getElem_cons_zero,Nat.zero_add,List.drop_succ_cons,List.drop_zero] at e g;rw[if_neg (by rw[g];simp),e];exact List.mem_cons_self .. |succ i=>have:=ih.2 ⟨i,by simpa using hi,by simpa using e,by simpa using g⟩;split;(·exact this);·exact List.mem_cons_of_mem _ this
theorem jM{α:Type}{p q:α→Bool}: ∀{l:List α},(∀x∈l,p x=q x)→l.findIdx? p=l.findIdx? q|[],_=>rfl|x::l,h=>by rw[List.findIdx?_cons,List.findIdx?_cons,h x (List.mem_cons_self ..),jM fun y hy=>h y (List.mem_cons_of_mem _ hy)]
theorem kt{α:Type}{p:α→Bool}: ∀{l:List α},(∀x∈l,p x=false)→l.findIdx? p=none|[],_=>rfl|x::l,h=>by rw[List.findIdx?_cons,h x (List.mem_cons_self ..),kt fun y hy=>h y (List.mem_cons_of_mem _ hy)];rfl
theorem v7{way:Int}{l:List ah}{c:ah}:c∈aZ way l↔c∈l:=by
 unfold aZ;split;·have:=(bD aU l []).mem_iff (a:=c);simpa using this
 ·rfl
theorem qf(way:Int)(l:List aa)(p:List GStep){i:Nat}(h:i<(bX way l p).length):(bX way l p)[i].at_=i:=by
 have h2:=h;rw[cV] at h2;exact(gr way l p h (by omega) (by omega)).1
def pq(way:Int)(l:List aa)(m:Nat):Option Nat:=(aZ way (au (bX way l []))).findIdx? fun c=>decide ((c.at_:Int)=(m:Int))
theorem uw(way:Int)(l:List aa){m:Nat}(hm:m<(bX way l []).length):pq way l m=if cG (bX way l [])[m] ((bX way l []).drop (m+1))=true then none else((aZ way (au (bX way l []))).map ah.name).findIdx? fun x=>decide (x=(bX way l [])[m].name):=by
 unfold pq;have hk: ∀c∈aZ way (au (bX way l [])),∃i,∃h:i<(bX way l []).length,c=(bX way l [])[i]∧cG (bX way l [])[i] ((bX way l []).drop (i+1))=false:=fun c hc=>(qa _ c).1 (v7.1 hc);split
 ·rename_i hg;refine kt fun c hc=> ?_;obtain⟨i,hi,rfl,g⟩:=hk c hc;rw[qf way l [] hi];refine decide_eq_false fun e=> ?_;have e:i=m:=by omega
  subst e;rw[g] at hg;cases hg
 ·rename_i hg;rw[List.findIdx?_map];refine jM fun c hc=> ?_;obtain⟨i,hi,rfl,g⟩:=hk c hc;rw[qf way l [] hi];simp only[Function.comp];by_cases e:i=m;·subst e;simp
  ·rw[decide_eq_false (by omega),decide_eq_false];intro hn;rcases Nat.lt_or_gt_of_ne e with h|h;·rw[jQ (i:=m-(i+1)) (by rw[List.length_drop];omega) (by rw[List.getElem_drop];simp only[show i+1+(m-(i+1))=m by omega];exact hn.symm)] at g;cases g
   ·exact hg (jQ (i:=i-(m+1)) (by rw[List.length_drop];omega) (by rw[List.getElem_drop];simp only[show m+1+(i-(m+1))=i by omega];exact hn))
theorem uF{cs:List ah}{m:Nat}(hm:m<cs.length):cG cs[m] (cs.drop (m+1))=true↔ ∃j,m<j∧ ∃h:j<cs.length,cs[j].name=cs[m].name:=by
 constructor;·intro h;unfold cG at h;obtain⟨d,hd,e⟩:=List.any_eq_true.1 h;obtain⟨i,hi,rfl⟩:=List.getElem_of_mem hd;rw[List.length_drop] at hi;refine⟨m+1+i,by omega,by omega,?_⟩;rw[List.getElem_drop] at e;simpa using e
 ·rintro⟨j,hj,h,e⟩;refine jQ (i:=j-(m+1)) (by rw[List.length_drop];omega) ?_;rw[List.getElem_drop];simp only[show m+1+(j-(m+1))=j by omega];exact e
theorem vG{way:Int}{l:List aa}{NM:List aa}(hN:NM=(bX way l []).map ah.name){m j:Nat}(hm:m<NM.length)(hj:m<j)(h:j<NM.length)(e:NM[j]=NM[m]):pq way l m=none:=by
 subst hN;rw[List.length_map] at hm h;simp only[List.getElem_map] at e;rw[uw way l hm,if_pos ((uF hm).2 ⟨j,hj,h,e⟩)]
theorem vh{way:Int}{l:List aa}{NM:List aa}(hN:NM=(bX way l []).map ah.name){m:Nat}(hm:m<NM.length)(h: ∀j,m<j→ ∀h:j<NM.length,NM[j]≠NM[m]):pq way l m=((aZ way (au (bX way l []))).map ah.name).findIdx? fun x=>decide (x=NM[m]):=by
 subst hN;rw[List.length_map] at hm;rw[uw way l hm,if_neg fun g=> ?_];·simp only[List.getElem_map]
 ·obtain⟨j,hj,hl,e⟩:=(uF hm).1 g;exact h j hj (by rw[List.length_map];exact hl) (by simpa using e)
theorem te{L:List aa}{x:aa}{i:Nat}(hi:i<L.length)(e:L[i]=x)(h: ∀j(hj:j<L.length),j<i→L[j]≠x):(L.findIdx? fun y=>decide (y=x))=some i:=by
 rw[List.findIdx?_eq_some_iff_getElem];exact⟨hi,by simpa using e,fun j hj=>by simpa using h j (by omega) hj⟩
theorem tT{L:List aa}{x:aa}(h: ∀j(hj:j<L.length),L[j]≠x):(L.findIdx? fun y=>decide (y=x))=none:=by
 rw[List.findIdx?_eq_none_iff];intro y hy;obtain⟨j,hj,rfl⟩:=List.getElem_of_mem hy;simpa using h j hj
def zl:Option Nat→Int|none=> -1|some j=>j
def yE(v:aa):Prop:= ∀(A:Option Addr)(c:Nat)(w:World),bulkVal v≤1048576→bq v→SA w v.l A c→Calls Tryz.prog 69 #[.agg #[.int .i64 v.kind,.int .i64 v.n,.int .i64 v.x,.string v.s,.slice A v.l.length c]] w fun e w'=> ∃A' c',e=.returned (.agg #[.int .i64 v.kind,.int .i64 v.n,.int .i64 v.x,.string v.s,.slice A' v.l.length c'])∧SF w.heap.size w' v.l A' c'∧Below w.heap.size w w'
theorem jh(v:aa):yE v:=by
 refine aa.ind (p:=yE) (fun v IH=> ?_) v;intro A c w hn hI hx;have hn1:v.l.length≤1048576:=by rw[av,aC] at hn;omega
 have hp:Hid (∀k(h:k<v.l.length),bulkVal v.l[k]≤1048576):=fun k h=>by have:=et bulkVal v.l h;rw[av,aC] at hn;omega
 have IH':=AJ IH;clear IH hn;have E:=AJ hx;clear hx;have HI:=AJ hI;clear hI;go_enter Tryz.func69,Tryz.ntmps69;go_wp2_with fail;go_loopg[4] v.l.length (fun gk i wr=> ∃(k:Nat) (rv:Value),k≤v.l.length∧i=.int .i64 k∧gk=v.l.length-k∧ai wr w.heap.size 27 #[.int .i64 v.kind,.int .i64 v.n,.int .i64 v.x,.string v.s,.slice A v.l.length c]∧ai wr (w.heap.size+1) 27 #[.int .i64 0,.int .i64 0,.int .i64 0,.string .empty,.slice none 0 0]∧ai wr (w.heap.size+1+1) 27 #[.int .i64 v.kind,.int .i64 v.n,.int .i64 v.x,.string v.s,rv]∧ay wr (w.heap.size+1+1+1) 27 rv (v.l.take k)∧Below w.heap.size w wr);case atStart=>exact⟨0,.slice (some ⟨w.heap.size+1+1+1,0,none⟩) 0 0,by omega,rfl,by omega,(((ai.at rfl).alloc _).alloc _).alloc _,((ai.at (by simp)).alloc _).alloc _,(ai.at (by simp)).alloc _,ay.dF _ _ _ _ (by simp) (by omega),ab (ab (ab (ab (ae w) _) _) _) _⟩
 case round=>
  obtain⟨k,rv,hk,rfl,rfl,hP0,hP1,hP2,hown,hbel⟩:=hrel;by_cases hlt:k<v.l.length
  ·obtain⟨b,off,A',c',rfl,hb,hI,hs,k0,k1,k2,k3,k4⟩:=(E.out.below hbel).bI hlt;obtain⟨p0,p1,p2,p3,p4⟩:=hP0.c5;have HS:=AJ (AH hI hs);clear hI hs;go_wp2_with fail;refine(IH'.out k hlt A' c' _ (hp.out k hlt) HS.out.1 HS.out.2).mono ?_;rintro e w1 ⟨A1,c1,rfl,hsf,hb1⟩;have HB:=AJ (AH hown (AH hsf hb1));have Q0:=AJ (hP0.below hb1);have Q1:=AJ (hP1.below hb1);have Q2:=AJ (hP2.below hb1);have hz0:w.heap.size<w1.heap.size:=Q0.out.lt;have hz1:w.heap.size+1<w1.heap.size:=Q1.out.lt;have hz2:w.heap.size+1+1<w1.heap.size:=Q2.out.lt;have f2:=Q2.out.frozen 4;have hwr:w.heap.size+1+1<wr.heap.size:=hP2.lt;have hbel1:=AJ (ak hbel hb1);clear hb1 hsf hown hP0 hP1 hP2 p0 p1 p2 p3 p4 k0 k1 k2 k3 k4 hbel;obtain⟨p0,p1,p2,p3,p4⟩:=Q0.out.c5;obtain⟨q0,q1,q2,q3,q4⟩:=Q2.out.c5;have htk:(v.l.take k).length=k:=by rw[List.length_take];omega
   have htk1:(v.l.take (k+1)).length=k+1:=by rw[List.length_take];omega
   go_wp2_with(at_builtin;(refine aw rfl _ _ 25 rfl rfl rfl (cS 25 _ (w.heap.size+1+1+1) 27 (.agg #[.int .i64 0,.int .i64 0,.int .i64 0,.string .empty,.slice none 0 0]) 64 Tryz.underlying25 b7 rfl (by decide) rv (v.l.take k) v.l[k] _ wr _ _ HB.out.1 (ak HB.out.2.2 (ab (ab (ae w1) _) _)) (RF.below (RF.val HS.out.1 HB.out.2.1) (ab (ab (ae w1) _) _)) (aJ [_,_,_,_,_] (by simp)) (by rw[htk];omega) (by rw[htk];unfold maxLen;omega) (by omega)) ?_;rintro rv' w2 ⟨ho,hbl,_⟩;rw[←List.take_succ_eq_append_getElem hlt] at ho;obtain⟨Av,cv,rfl⟩:=ho.form;rw[htk1] at ho ⊢;have HO:=AJ (AH ho hbl);have Q2':=AJ (((Q2.out.alloc _).alloc _).aF hbl (by omega));have f2':=Q2'.out.frozen 4;obtain⟨r0,r1,r2,r3,r4⟩:=Q2'.out.c5;clear ho hbl));go_roundg(v.l.length-(k+1));case measure=>omega
   case rel=>
    refine⟨k+1,.slice Av (k+1) cv,by omega,by go_num,rfl,?_,?_,?_,HO.out.1.set (by simp) _,?_⟩;·exact(((Q0.out.alloc _).alloc _).aF HO.out.2 (by omega)).nr (by simp<;>omega) _
    ·exact(((Q1.out.alloc _).alloc _).aF HO.out.2 (by omega)).nr (by simp<;>omega) _
    ·exact Q2'.out.cF 4 _
    ·exact(ak hbel1.out (ab (ab (ae w1) _) _)).trans (HO.out.2.mono (by omega)) |>.setCell (by simp;omega) _
  ·have e:k=v.l.length:=by omega
   subst e;rw[List.take_length] at hown;obtain⟨Av,cv,rfl⟩:=hown.form;have HO:=AJ (AH hown hbel);clear hown hbel;obtain⟨p0,p1,p2,p3,p4⟩:=hP0.c5;obtain⟨q0,q1,q2,q3,q4⟩:=hP2.c5;obtain⟨r0,r1,r2,r3,r4⟩:=hP1.c5;have hz1:=hP1.lt;have hz2:=hP2.lt;obtain⟨f0,f1,f2,f3,f4⟩:=hP1.f5;clear hP0 hP1 hP2;go_wp2_with fail;refine bodyPost_ret (v:=.agg #[.int .i64 v.kind,.int .i64 v.n,.int .i64 v.x,.string v.s,.slice Av v.l.length cv]) (by simp[results,Tryz.results69,go_sem, *]) rfl ?_;refine⟨Av,cv,rfl,?_,?_⟩;·refine SF.mono (base:=w.heap.size+1+1+1) ?_ (by omega);refine SF.set (SF.set (SF.set (SF.set (SF.set HO.out.1.sf.2 ?_ _) ?_ _) ?_ _) ?_ _) ?_ _;all_goals(simp;try omega)
   ·refine Below.setCell (Below.setCell (Below.setCell (Below.setCell (Below.setCell HO.out.2 ?_ _) ?_ _) ?_ _) ?_ _) ?_ _;all_goals(simp;try omega)
theorem aP(x a b:Int)(w:World):Calls Tryz.prog 141 #[.int .i64 x,.int .i64 a,.int .i64 b] w (bW w (.bool (decide (a≤x∧x≤b)))):=by
 obtain⟨r,hr⟩: ∃r,r=decide (a≤x∧x≤b):=⟨_,rfl⟩;rw[←hr];have R:=AJ hr;clear hr;by_cases h1:a≤x;·by_cases h2:x≤b;all_goals go_enter Tryz.func141,Tryz.ntmps141;go_wp2_with fail;go_ret;exact⟨by rw[R.out];simp[h1,h2],ae w⟩
 ·go_enter Tryz.func141,Tryz.ntmps141;go_wp2_with fail;go_ret;exact⟨by rw[R.out,decide_eq_false (by omega)];rfl,ae w⟩
theorem bf(x a b:Int)(w:World):Calls Tryz.prog 74 #[.int .i64 x,.int .i64 a,.int .i64 b] w (bW w (.bool (decide (a≤x∧x≤b)))):=by
 obtain⟨r,hr⟩: ∃r,r=decide (a≤x∧x≤b):=⟨_,rfl⟩;rw[←hr];have R:=AJ hr;clear hr;by_cases h1:a≤x;·by_cases h2:x≤b;all_goals go_enter Tryz.func74,Tryz.ntmps74;go_wp2_with fail;go_ret;exact⟨by rw[R.out];simp[h1,h2],ae w⟩
 ·go_enter Tryz.func74,Tryz.ntmps74;go_wp2_with fail;go_ret;exact⟨by rw[R.out,decide_eq_false (by omega)];rfl,ae w⟩
theorem qS(v:aa)(s:GStep)(A:Option Addr)(c:Nat)(w:World)(hn:v.l.length≤1048576)(hI:aT s.at_):Calls Tryz.prog 145 #[.agg #[.int .i64 v.kind,.int .i64 v.n,.int .i64 v.x,.string v.s,.slice A v.l.length c],.agg #[.int .i64 s.at_,.bool s.name]] w (bW w (.int .i64 (bA v s))):=by
 obtain⟨r,hr⟩: ∃r,r=bA v s:=⟨_,rfl⟩;rw[←hr];unfold bA dz at hr;have hI1:=hI.1;have hI2:=hI.2;clear hI;by_cases h1:v.kind=10
 ·by_cases h2:s.name=true
  all_goals
   simp only[h1,h2,if_true,true_or,true_and,Bool.false_eq_true,if_false] at hr;by_cases h3:s.at_<0;·rw[if_neg (by omega)] at hr;have R:=AJ hr;clear hr;go_enter Tryz.func145,Tryz.ntmps145;go_wp2_with fail;go_ret;exact⟨by rw[R.out];rfl,ab (ab (ae w) _) _⟩
   ·by_cases h4:s.at_>v.l.length;·rw[if_neg (by simp;omega)] at hr;have R:=AJ hr;clear hr;go_enter Tryz.func145,Tryz.ntmps145;go_wp2_with fail;go_ret;exact⟨by rw[R.out];rfl,ab (ab (ae w) _) _⟩
    ·have R:=AJ hr;clear hr;go_enter Tryz.func145,Tryz.ntmps145;go_wp2_with(go_at_call 141;(refine(aP _ _ _ _).mono ?_;rintro e w1 ⟨rfl,hb1⟩;have b1:=AJ (ak (ab (ab (ae w) _) _) hb1);clear hb1));all_goals go_ret;refine⟨?_,b1.out⟩;rw[R.out];split;all_goals first|rfl|(exfalso;simp_all<;>omega)
 ·by_cases h2:s.name=true;·simp only[h1,h2,if_false,false_or,Bool.true_eq_false,false_and,and_false] at hr;have R:=AJ hr;clear hr;go_enter Tryz.func145,Tryz.ntmps145;go_wp2_with fail;go_ret;exact⟨by rw[R.out];rfl,ab (ab (ae w) _) _⟩
  ·simp only[h1,h2,if_false,false_or,true_and] at hr;have R:=AJ hr;clear hr;go_enter Tryz.func145,Tryz.ntmps145;go_wp2_with(go_at_call 141;(refine(aP _ _ _ _).mono ?_;rintro e w1 ⟨rfl,hb1⟩;have b1:=AJ (ak (ab (ab (ae w) _) _) hb1);clear hb1));all_goals go_ret;refine⟨?_,b1.out⟩;rw[R.out];split;all_goals first|rfl|(exfalso;simp_all<;>omega)
theorem pW(v:aa)(s:GStep)(A:Option Addr)(c:Nat)(w:World)(hn:v.l.length≤1048576)(hI:aT s.at_):Calls Tryz.prog 91 #[.agg #[.int .i64 s.at_,.bool s.name],.agg #[.int .i64 v.kind,.int .i64 v.n,.int .i64 v.x,.string v.s,.slice A v.l.length c]] w (bW w (.int .i64 (bA v s))):=by
 obtain⟨r,hr⟩: ∃r,r=bA v s:=⟨_,rfl⟩;rw[←hr];unfold bA dz at hr;have hI1:=hI.1;have hI2:=hI.2;clear hI;by_cases h0:0≤s.at_∧s.at_≤v.l.length-1
 ·by_cases h1:v.kind=10;·by_cases h2:s.name=true;all_goals simp only[h1,h2,if_true,true_or,true_and,Bool.false_eq_true,if_false] at hr;have R:=AJ hr;clear hr;go_enter Tryz.func91,Tryz.ntmps91;go_wp2_with(go_at_call 74;(refine(bf _ _ _ _).mono ?_;rintro e w1 ⟨rfl,hb1⟩;rw[decide_eq_true h0];obtain⟨hc,hf⟩:=ig hb1;have hz:w.heap.size+1<w1.heap.size:=(by have:=hb1.size;simp at this;omega);have hz':w.heap.size<w1.heap.size:=(by omega);have b1:=AJ (ak (ab (ab (ae w) _) _) hb1);clear hb1));all_goals go_ret;refine⟨?_,b1.out⟩;rw[R.out];split;all_goals first|rfl|(exfalso;simp_all<;>omega)
  ·by_cases h2:s.name=true;all_goals simp only[h1,h2,if_true,if_false,false_or,Bool.true_eq_false,false_and,and_false,true_and] at hr;have R:=AJ hr;clear hr;go_enter Tryz.func91,Tryz.ntmps91;go_wp2_with(go_at_call 74;(refine(bf _ _ _ _).mono ?_;rintro e w1 ⟨rfl,hb1⟩;rw[decide_eq_true h0];obtain⟨hc,hf⟩:=ig hb1;have hz:w.heap.size+1<w1.heap.size:=(by have:=hb1.size;simp at this;omega);have hz':w.heap.size<w1.heap.size:=(by omega);have b1:=AJ (ak (ab (ab (ae w) _) _) hb1);clear hb1));all_goals go_ret;refine⟨?_,b1.out⟩;rw[R.out];(try split);all_goals first|rfl|(exfalso;simp_all<;>omega)
 ·have hr':r= -1:=by rw[hr,if_neg];intro h;have:s.at_≤dz v s:=pI h.1;unfold dz at this;omega
  have R:=AJ hr';clear hr hr';have h0':decide (0≤s.at_∧s.at_≤(v.l.length:Int)-1)=false:=decide_eq_false h0;have H0:=AJ h0;clear h0;go_enter Tryz.func91,Tryz.ntmps91;go_wp2_with(go_at_call 74;(refine(bf _ _ _ _).mono ?_;rintro e w1 ⟨rfl,hb1⟩;rw[h0'];have b1:=AJ (ak (ab (ab (ae w) _) _) hb1);clear hb1));go_ret;exact⟨by rw[R.out];rfl,b1.out⟩
theorem iX(n:Int)(w:World)(hI:aT n):Calls Tryz.prog 200 #[.int .i64 n] w (bW w (.int .i64 (eU n))):=by
 have hq: ∀x:Int,aT x→aT (x.tdiv 10):=fun x hx=>by have h1:=jZ x;obtain⟨h2,h3⟩:=hx;refine⟨?_,?_⟩<;>omega
 have hi1:=hI.1;have hi2:=hI.2;have hD:eU n≤19:=x9 hI;obtain⟨r,hr⟩: ∃r,r=eU n:=⟨_,rfl⟩;rw[←hr] at hD ⊢;have R:=AJ hr;clear hr;have HQ:=AJ (AH hq hI);clear hq hI;go_enter Tryz.func200,Tryz.ntmps200;go_wp2_with fail;go_loopg[3,4] ((n.tdiv 10).natAbs) (fun gk kk xx wr=> ∃(k:Nat) (x:Int),kk=.int .i64 k∧xx=.int .i64 x∧gk=x.natAbs∧Hid (k+nd x=r)∧k≤r∧aT x∧wr=w);case atStart=>exact⟨1,_,rfl,rfl,rfl,by show _=_;rw[R.out,xU],by have:=R.out;have:=wC n;omega,HQ.out.1 n HQ.out.2,rfl⟩
 case round=>
  obtain⟨k,x,rfl,rfl,rfl,hk,hkr,hx,rfl⟩:=hrel;have hx1:=HQ.out.1 x hx;have hi1:=hx.1;have hi2:=hx.2;by_cases h0:x=0
  ·have hb:(x != 0)=false:=by simp[h0]
   have hkr2:k=r:=by have:=hk.out;rw[h0] at this;simpa[nd] using this
   subst hkr2;have HZ:=AJ hx1;clear hx1 hx h0;go_wp2_with fail;go_ret;exact⟨rfl,ae _⟩
  ·have hb:(x != 0)=true:=by simp[h0]
   have hs:=uB h0;have hk1:k+1≤r:=by have:=hk.out;omega
   have HZ:=AJ (AH hx1 (AH h0 (AH hx hs)));clear hx1 hx h0 hs;go_wp2_with fail;go_roundg((x.tdiv 10).natAbs);case measure=>have:=jZ x;have:=HZ.out.2.1;omega
   case rel=>exact⟨k+1,_,by go_num,rfl,rfl,by show _=_;have:=hk.out;have:=HZ.out.2.2.2;omega,hk1,HZ.out.1,rfl⟩
theorem bw(n x:Int)(w:World)(hI:aT n):Calls Tryz.prog 143 #[.agg #[.int .i64 n,.int .i64 x]] w (bW w (.bool (aV n x))):=by
 have P0:=AJ (ai.new w 108 #[.int .i64 n,.int .i64 x]);have B0:=AJ (ab (ae w) (.cells #[.int .i64 n,.int .i64 x] 108));have HI:=AJ hI;clear hI;obtain⟨r,hr⟩: ∃r,r=aV n x:=⟨_,rfl⟩;rw[←hr];unfold aV at hr;by_cases hx:x=0
 ·have hxb:(x==0)=true:=by simp[hx]
  rw[if_pos hx] at hr;have R:=AJ hr;clear hx hr;go_enter Tryz.func143,Tryz.ntmps143;go_wp2_with fail;refine(aP _ _ _ _).mono ?_;rintro e w1 ⟨rfl,hb1⟩;rw[←R.out];have B1:=AJ (ak B0.out hb1);clear hb1;go_wp2_with fail;go_ret;exact⟨rfl,B1.out⟩
 ·have hxb:(x==0)=false:=by simp[hx]
  rw[if_neg hx] at hr;clear hx;cases hd:decide (-16≤x∧x≤ -1) with|false=>have HD:=AJ hd;rw[hd] at hr;simp only[Bool.false_and] at hr;subst hr;clear hd;go_enter Tryz.func143,Tryz.ntmps143;go_wp2_with fail;refine(aP _ _ _ _).mono ?_;rintro e w1 ⟨rfl,hb1⟩;rw[HD.out];have B1:=AJ (ak B0.out hb1);clear hb1;go_wp2_with fail;go_ret;exact⟨rfl,B1.out⟩|true=>rw[hd,Bool.true_and] at hr;have HD:=AJ hd;clear hd;by_cases hm:n.tmod 10=0;(·(have hmb:(n.tmod 10 != 0)=false:=by simp[hm]);(have hr0:r=false:=by rw[hr];simp[hm]);subst hr0;clear hm hr;go_enter Tryz.func143,Tryz.ntmps143;go_wp2_with fail;refine(aP _ _ _ _).mono ?_;rintro e w1 ⟨rfl,hb1⟩;rw[HD.out];obtain⟨p0,p1⟩:=(P0.out.below hb1).c2;have B1:=AJ (ak B0.out hb1);clear hb1;go_wp2_with fail;go_ret;exact⟨rfl,B1.out⟩);·(have hmb:(n.tmod 10 != 0)=true:=by simp[hm]);(have hr0:r=decide (eU n≤17):=by rw[hr];simp[hm]);obtain⟨q,hq⟩: ∃q,q=eU n:=⟨_,rfl⟩;(have hqi:decide ((q:Int)≤17)=r:=by rw[hr0,hq];simp;omega);have HR:=AJ (AH hq hqi);clear hm hr hr0 hqi hq;go_enter Tryz.func143,Tryz.ntmps143;go_wp2_with fail;refine(aP _ _ _ _).mono ?_;rintro e w1 ⟨rfl,hb1⟩;rw[HD.out];obtain⟨p0,p1⟩:=(P0.out.below hb1).c2;have B1:=AJ (ak B0.out hb1);clear hb1;go_wp2_with fail;refine(iX n w1 HI.out).mono ?_;rintro e w2 ⟨rfl,hb2⟩;rw[←HR.out.1];have B2:=AJ (ak B1.out hb2);clear hb2;go_wp2_with fail;go_ret;exact⟨by rw[←HR.out.2];rfl,B2.out⟩
end Go.Proofs.YtodpdjehjllhdaaGreatDoor
