/- Part of a proof: contracts and plain laws. -/
import Derived.Test.YtodpdjehjllhdaaGreatDoorZ00
import Derived.ProofKit
import Derived.OpenShut
import Derived.JoinedCond
import Derived.Deep.Slices
import Derived.Deep.Fields
set_option linter.unusedVariables false
set_option maxRecDepth 100000
set_option maxHeartbeats 20000000
namespace Go.Proofs.YtodpdjehjllhdaaGreatDoor
open Go.RowKit
section
open Go.ChangeShapes Go.WideShapes Go.ChangeAt Go.RowKit
section
variable {H : Type} {enc : TypeId × Value → H} {P : Program}
theorem ja(hl:laidOutB P=true){W W':World}(hb:Below W.heap.size W W'){sp:Nat→Bool}: ∀{ts:List TypeId}{vs:List Value}{ds:List (DataW H)}{ps:List MemPlace},(∀t,t∈ts→P.readableRec t=true∧t<P.types.size)→DataW.TrodAll enc P W 0 (fun _=>true) true ts vs ds ps→(∀p∈ps,p.block<W.heap.size)→(∀p∈ps,sp p.block=true)→DataW.TrodAll enc P W' 0 sp true ts vs ds ps|[],[],[],_,_,h,_,_=>h|[],_::_,_,_,_,h,_,_=>h.elim|[],[],_::_,_,_,h,_,_=>h.elim|_::_,[],_,_,_,h,_,_=>h.elim|_::_,_::_,[],_,_,h,_,_=>h.elim|t::ts,v::vs,d::ds,ps,hr,h,hlt,hsp=>by obtain⟨p,q,h1,h2,rfl⟩:=h;refine⟨p,q,WideElems.Trod_stays hl (hr t (List.mem_cons_self ..)).1 (hr t (List.mem_cons_self ..)).2 h1 (fun x hx=>hb.same (hlt x (List.mem_append_left _ hx))) (fun x hx=>hsp x (List.mem_append_left _ hx)),?_,rfl⟩;exact ja hl hb (fun t ht=>hr t (List.mem_cons_of_mem _ ht)) h2 (fun x hx=>hlt x (List.mem_append_right _ hx)) (fun x hx=>hsp x (List.mem_append_right _ hx))
theorem uM{f:Func}{s:ChangeSpec}{tb:TypeId}{W W':World}{args:Array Value}{ds:List (DataW H)}{before:List MemPlace}(hvars:s.vars=[])(hrt:f.resultTypes=#[tb])(htb:P.underlying tb=some .bool)(hl:laidOutB P=true)(hr:f.params.toList.all (fun t=>P.readableRec t&&decide (t<P.types.size))=true)(hs:s.fn H ds={results:=[.lit (.bool true)],args:=ds})(hW:DataW.Whole enc P f.params.toList s.vars false W args.toList ds [] before)(hb:Below W.heap.size W W'):s.post enc P f false true false false W args (.bool true) W':=by
 have hr': ∀t,t∈f.params.toList→P.readableRec t=true∧t<P.types.size:=fun t ht=>by have:=List.all_eq_true.1 hr t ht;simpa using this
 have hlt: ∀p∈before,p.block<W.heap.size:=fun p hp=>hW.lt p hp;have hW':=hW;obtain⟨p,q,hA,hV,rfl,hfz,hnd⟩:=hW;rw[hvars] at hV;have hq:q=[]:=hV;subst hq;rw[List.append_nil] at hlt;refine⟨ds,[],p++[],[],p,[],hW',?_,?_,?_,hb.frame _,fun h=>by cases h⟩;·rw[List.append_nil,hs,hrt];exact trodAll_mk1 (shut_bool htb true)
 ·rw[List.append_nil,hs];exact ja hl hb hr' hA hlt (fun x hx=>by simpa using hlt x hx)
 ·rw[List.append_nil,hs,hvars];exact(rfl:([]:List MemPlace)=[])
def jQ(P:Program)(t:TypeId)(α:Type)[aG α]:Prop:= ∀(H:Type)(enc:TypeId×Value→H)(w:World)(n:Nat)(cs:List Value)(x:DataW H×List MemPlace),DataW.trod enc P w 0 (fun _=>true) true n t cs=some x→ ∃a:α,RA w a cs
def gp(P:Program)(n:Nat)(t:TypeId)(α:Type)[aG α]:Prop:= ∀(H:Type)(enc:TypeId×Value→H)(w:World)(m:Nat)(cs:List Value)(x:DataW H×List MemPlace),m≤n→DataW.trod enc P w 0 (fun _=>true) true m t cs=some x→ ∃a:α,RA w a cs
theorem jQ.to{t:TypeId}{α:Type}[aG α](h:jQ P t α)(n:Nat):gp P n t α:=fun H enc w m cs x _ hx=>h H enc w m cs x hx
theorem jQ.of{t:TypeId}{α:Type}[aG α](h: ∀n,gp P n t α):jQ P t α:=fun H enc w n cs x hx=>h n H enc w n cs x (Nat.le_refl _) hx
theorem gp.le{t:TypeId}{α:Type}[aG α]{n m:Nat}(h:gp P n t α)(hm:m≤n):gp P m t α:=fun H enc w k cs x hk hx=>h H enc w k cs x (by omega) hx
theorem rA{t:TypeId}(ht:P.underlying t=some (.int .u8)):jQ P t UInt8:=by
 intro H enc w n cs x h;obtain⟨k,rfl,_,hw⟩:=DataW.trod_int ht h;have hI:0≤k∧k≤255:=by simpa[Lit.wf,IntKind.min,IntKind.max,IntKind.signed,IntKind.bits] using hw
 refine⟨UInt8.ofNat k.toNat,[],⟨rfl,?_⟩,by simp⟩;have e:((UInt8.ofNat k.toNat).toNat:Int)=k:=by rw[UInt8.toNat_ofNat_of_lt' (by simp[UInt8.size];omega)];omega
 rw[e]
theorem uz{α:Type}[aG α]{w:World}{b off:Nat}(len:Nat)(h: ∀i,i<len→ ∃(a:α) (cs:List Value),RA w a cs∧aZ w b (off+i*aG.wd α) cs): ∃(l:List α) (F:List Nat) (xs:List Value),l.length=len∧aH w l F xs∧aZ w b off xs∧ ∀b,b∈F→b<w.heap.size:=by
 induction len with|zero=>exact⟨[],[],[],rfl,⟨rfl,rfl⟩,fun j v hj=>by simp at hj,by simp⟩|succ n ih=>obtain⟨l,F,xs,hl,he,hc,hF⟩:=ih fun i hi=>h i (by omega);obtain⟨a,cs,⟨Fa,hr,hFa⟩,hca⟩:=h n (by omega);refine⟨l++[a],F++Fa,xs++cs,by simp[hl],he.snoc hr,fun j v hj=> ?_,fun b hb=> ?_⟩;(·by_cases hlt:j<xs.length;(·exact hc j v (by rwa[List.getElem?_append_left hlt] at hj));·rw[List.getElem?_append_right (by omega)] at hj;have:=hca (j-xs.length) v hj;(have e:off+n*aG.wd α+(j-xs.length)=off+j:=by rw[he.len,hl] at hlt ⊢;omega);rwa[e] at this);·rcases List.mem_append.1 hb with hb|hb;(·exact hF b hb);·exact hFa b hb
theorem nH{t e:TypeId}{α:Type}[aG α]{n:Nat}(ht:P.underlying t=some (.slice e))(hc:P.cellsOf e=aG.wd α)(hwd:0<aG.wd α)(he:gp P n e α):gp P (n+1) t (List α):=by
 intro H enc w m cs x hm h;have hm':m≠0:=by rintro rfl;simp[DataW.trod] at h
 rcases DataW.trod_slice ht h with⟨rfl,_⟩|⟨a,len,cap,elems,rest,k,hk,rfl,_,hb,hl,hcap,hlen,hel,_,_⟩;·exact⟨[],[],⟨none,0,rfl,by simp,by simp[maxLen],.inl ⟨rfl,rfl,fun _=>rfl⟩⟩,by simp⟩
 ·by_cases h0:len=0;·subst h0;exact⟨[],[],⟨some a,cap,rfl,by simp,hcap,.inl ⟨rfl,rfl,fun h=>by cases h⟩⟩,by simp⟩
  ·have hcell: ∀i,i<len→ ∃cs',w.cells? 0 (a.add (i*P.cellsOf e)) (P.cellsOf e)=some cs'∧ ∃y,DataW.trod enc P w 0 (fun _=>true) true k e cs'=some y:=by intro i hi;obtain⟨cs',h1,h2⟩:=Option.bind_eq_some_iff.1 ((hel i hi).trans (List.getElem?_eq_getElem (by omega)));exact⟨cs',h1,_,h2⟩
   obtain⟨b,off,rfl⟩: ∃b off,a=⟨b,off,none⟩:=by obtain⟨cs',h1,_⟩:=hcell 0 (by omega);obtain⟨_,hlen',hat⟩:=World.cells?_some h1;have hv:=hat 0 (by rw[hc];exact hwd);rw[List.getElem?_eq_getElem (by rw[hlen',hc];exact hwd)] at hv;(have hs:a.spot=none:=by rw[Nat.zero_mul] at hv;simp only[Addr.add,if_pos] at hv;unfold World.cell? at hv;split at hv;(·split at hv;(·cases hv);·rename_i hns;cases hsp:a.spot with|none=>rfl|some _=>rw[hsp] at hns;simp at hns);·cases hv);exact⟨a.block,a.off,by cases a;simp_all⟩
   have hadd: ∀o i,(⟨b,o,none⟩:Addr).add i=⟨b,o+i,none⟩:=fun o i=>by unfold Addr.add;split;(·rename_i h;subst h;rfl);·rfl
   have hall: ∀i,i<len→ ∃(a:α) (cs:List Value),RA w a cs∧aZ w b (off+i*aG.wd α) cs:=by intro i hi;obtain⟨cs',h1,y,h2⟩:=hcell i hi;obtain⟨a,ha⟩:=he H enc w k cs' y (by omega) h2;refine⟨a,cs',ha,fun j v hj=> ?_⟩;obtain⟨_,hlen',hat⟩:=World.cells?_some h1;(have hj':j<P.cellsOf e:=by rw[←hlen'];exact(List.getElem?_eq_some_iff.1 hj).1);have:=(hat j hj').trans hj;rw[hadd,hadd,hc] at this;exact this
   obtain⟨l,F,xs,hll,hel',hcs,hF⟩:=uz len hall;refine⟨l,b::F,⟨some ⟨b,off,none⟩,cap,by rw[hll],by omega,hcap,.inr ⟨b,off,F,xs,rfl,rfl,hel',hcs⟩⟩,fun b' hb'=> ?_⟩;rcases List.mem_cons.1 hb' with rfl|hb'
   ·obtain⟨a0,cs0,hra,hc0⟩:=hall 0 (by omega);obtain⟨Fa,hr,_⟩:=hra;have hl0:0<cs0.length:=by rw[aG.len hr];exact hwd
    exact hc0.lt hl0
   ·exact hF b' hb'
theorem qU{t e:TypeId}{α:Type}[aG α](ht:P.underlying t=some (.slice e))(hc:P.cellsOf e=aG.wd α)(hwd:0<aG.wd α)(he:jQ P e α):jQ P t (List α):=jQ.of fun n=>(nH ht hc hwd (he.to n)).le (Nat.le_succ n)
end
end
end Go.Proofs.YtodpdjehjllhdaaGreatDoor
