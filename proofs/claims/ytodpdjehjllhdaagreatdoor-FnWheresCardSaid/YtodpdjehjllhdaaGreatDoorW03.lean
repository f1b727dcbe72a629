/- Part of a proof: contracts and plain laws. -/
import Derived.Test.YtodpdjehjllhdaaGreatDoorW02
import Derived.Lib.AppendIntMem
set_option linter.unusedVariables false
set_option linter.unusedSimpArgs false
set_option maxRecDepth 100000
set_option maxHeartbeats 20000000
namespace Go.Proofs.YtodpdjehjllhdaaGreatDoor
open Go.RowKit
section
open Go.RowKit Go.Sort
def ql(w:World):Prop:=Lib.TabIs Tryz.prog w "internal/strconv.uint64pow10" .u64 Lib.pow10Tab
theorem ql.below{w w':World}(h:ql w)(hb:Below w.heap.size w w'):ql w':=Lib.tabBelow_of_tabIs h w' hb
theorem below_grow(w:World)(k:Nat)(os:Array Obj):Below w.heap.size w (grow (w.drewN k) os):=⟨rfl,rfl,rfl,by simp[grow,World.drewN],fun b hb=>by simp[grow,World.drewN,Array.getElem?_append_left hb]⟩
def eK(n:Int):ByteArray:=strOf (Lib.itoa n)
theorem jF: ∀(k u:Nat),u<10^(k+1)→(Lib.decDigits u).length≤k+1|0,u,h=>by rw[Lib.decDigits,dif_pos (by simpa using h)];simp|k+1,u,h=>by rw[Lib.decDigits];split;(·simp);·(have h2:u/10<10^(k+1):=by rw[Nat.pow_succ] at h;omega);have:=jF k (u/10) h2;simp;omega
theorem fw(a b:List UInt8):strOf a++strOf b=strOf (a++b):=by
 apply ByteArray.ext;simp[strOf]
theorem zd(u:Nat):byteOf (48+(u:Int)%10)=UInt8.ofNat (48+u%10):=by
 unfold byteOf;congr 1;omega
theorem rF{u0 u:Nat}{sl:List UInt8}(hu:0<u)(h:Lib.decDigits u++sl=Lib.decDigits u0):(0<u/10→Lib.decDigits (u/10)++(byteOf (48+(u:Int)%10)::sl)=Lib.decDigits u0)∧(u/10=0→byteOf (48+(u:Int)%10)::sl=Lib.decDigits u0):=by
 rw[zd];rw[Lib.decDigits] at h;split at h;·rename_i hlt;refine⟨fun h2=>by omega,fun _=> ?_⟩;rw[←h,show u%10=u by omega];rfl
 ·rename_i hge;refine⟨fun _=>by rw[←h,List.append_assoc];rfl,fun h2=>by omega⟩
theorem uC{u0 u:Nat}{sl:List UInt8}(h0:u0≤9223372036854775808)(h:(0<u→Lib.decDigits u++sl=Lib.decDigits u0)∧(u=0→sl=Lib.decDigits u0)):sl.length≤19:=by
 have h1:=jF 18 u0 (by omega);rcases Nat.eq_zero_or_pos u with e|e;·rw[h.2 e];omega
 ·have:=congrArg List.length (h.1 e);rw[List.length_append] at this;omega
theorem ix(n:Int)(w:World)(hI:aT n)(ht:ql w):Calls Tryz.prog 106 #[.int .i64 n] w (bW w (.string (eK n))):=by
 have hC:=Tryz.strconv_Itoa n hI.1 hI.2 w ht;have HC:=AJ hC;clear hC ht;go_enter Tryz.func106,Tryz.ntmps106;go_wp2_with fail;refine HC.out.mono ?_;rintro e w1 ⟨rfl,k,os,hw1⟩;have hb:Below w.heap.size w w1:=by rw[hw1];exact below_grow w k os
 have HB:=AJ hb;clear hb hw1;go_wp2_with fail;go_ret;exact⟨rfl,HB.out⟩
theorem mU(n:Int)(w:World)(hI:aT n):Calls Tryz.prog 109 #[.int .i64 n] w (bW w (.string (eK n))):=by
 obtain⟨r,hr⟩: ∃r,r=eK n:=⟨_,rfl⟩;rw[←hr];have hi1:=hI.1;have hi2:=hI.2;by_cases h0:n=0
 ·subst h0;have hr0:r=strOf [48]:=by rw[hr];unfold eK Lib.itoa;rw[if_neg (by omega),Lib.decDigits,dif_pos (by simp)];rfl
  have R:=AJ hr0;clear hr hr0;go_enter Tryz.func109,Tryz.ntmps109;go_wp2_with fail;go_ret;exact⟨by rw[R.out];rfl,ae w⟩
 ·have hn0:(n==0)=false:=by rw[beq_eq_false_iff_ne];exact h0
  have h0':n≠0:=h0;by_cases hneg:n<0
  ·obtain⟨u0,hu0,hu1⟩: ∃u:Nat,n= -(u:Int)∧0<u:=⟨n.natAbs,by omega,by omega⟩;have hr0:r=strOf (45::Lib.decDigits u0):=by rw[hr];unfold eK Lib.itoa;rw[if_pos hneg];congr 2;rw[show n.natAbs=u0 by omega]
   have R:=AJ hr0;clear hr hr0;have hul:u0≤9223372036854775808:=by omega
   subst hu0;go_enter Tryz.func109,Tryz.ntmps109;go_wp2_with fail;go_loopg[3,4,5] u0 (fun gk ss xx dd wr=> ∃(u:Nat) (sl:List UInt8),ss=.string (strOf sl)∧xx=.int .i64 (-(u:Int))∧gk=u∧u≤u0∧Hid ((0<u→Lib.decDigits u++sl=Lib.decDigits u0)∧(u=0→sl=Lib.decDigits u0))∧Below w.heap.size w wr);case atStart=>exact⟨u0,[],rfl,rfl,rfl,by omega,⟨fun _=>by simp,fun h=>by omega⟩,ae w⟩
   case round=>
    obtain⟨u,sl,rfl,rfl,hgk,hul0,hT,hbel⟩:=hrel;subst hgk;have hsl:=uC hul hT.out;have hz:(strOf sl).size≤20:=by rw[dk];omega
    rcases Nat.eq_zero_or_pos gk with rfl|hpos
    ·have he:sl=Lib.decDigits u0:=hT.out.2 rfl;have HE:=AJ he;clear he;have hz2: ¬(9223372036854775807<1+(strOf sl).size):=by omega
     go_wp2_with fail;go_ret;exact⟨by rw[R.out,←HE.out];rfl,hbel⟩
    ·have hq:((-(gk:Int)) != 0)=true:=by simp;omega
     have ht1:(-(gk:Int)).tmod 10= -((gk:Int)%10):=by rw[Int.neg_tmod,Int.tmod_eq_emod_of_nonneg (by omega)]
     have ht2:(-(gk:Int)).tdiv 10= -((gk:Int)/10):=by rw[Int.neg_tdiv,Int.tdiv_eq_ediv_of_nonneg (by omega)]
     have hx10:(-((gk:Int)/10))=(-((gk/10:Nat):Int)):=by omega
     have HS:=AJ (rF hpos (hT.out.1 hpos));rcases Int.lt_or_le 0 ((gk:Int)%10) with hm|hm
     ·have hm': ¬((gk:Int)%10≤0):=by omega
      have hmm:(0:Int)≤(gk:Int)%10:=by omega
      have hs:SA (wr.alloc (.cells #[.int .u8 (48+(gk:Int)%10)] 5)) [byteOf (48+(gk:Int)%10)] (some ⟨wr.heap.size,0,none⟩) 1:=by have:=(ay.lF (RF.byte (base:=wr.heap.size) (w:=wr) (byteOf (48+(gk:Int)%10))) 5 (Nat.le_refl _)).sf.2.sa;rw[fR,Int.emod_eq_of_lt (by omega) (by omega)] at this;exact this
      have hcv:=bc (P:=Tryz.prog) Tryz.underlying22 Tryz.underlying5 Tryz.underlying9 hs;rw[List.length_singleton] at hcv;have hsz:(strOf [byteOf (48+(gk:Int)%10)]).size=1:=by simp[dk]
      have hz2: ¬(9223372036854775807<(strOf [byteOf (48+(gk:Int)%10)]).size+(strOf sl).size):=by omega
      have HB:=AJ (show Below w.heap.size w (wr.alloc (.cells #[.int .u8 (48+(gk:Int)%10)] 5)) from ab hbel _);clear hs;go_wp2_with fail;go_roundg(gk/10);case measure=>omega
      case rel=>exact⟨gk/10,byteOf (48+(gk:Int)%10)::sl,by rw[fw];rfl,congrArg (Value.int .i64) hx10,rfl,by omega,HS.out,HB.out⟩
     ·have hm0:(gk:Int)%10=0:=by omega
      have hs:SA (wr.alloc (.cells #[.int .u8 48] 5)) [byteOf 48] (some ⟨wr.heap.size,0,none⟩) 1:=by have:=(ay.lF (RF.byte (base:=wr.heap.size) (w:=wr) (byteOf 48)) 5 (Nat.le_refl _)).sf.2.sa;rw[fR,Int.emod_eq_of_lt (by omega) (by omega)] at this;exact this
      have hcv:=bc (P:=Tryz.prog) Tryz.underlying22 Tryz.underlying5 Tryz.underlying9 hs;rw[List.length_singleton] at hcv;have hsz:(strOf [byteOf 48]).size=1:=by simp[dk]
      have hz2: ¬(9223372036854775807<(strOf [byteOf 48]).size+(strOf sl).size):=by omega
      have HB:=AJ (show Below w.heap.size w (wr.alloc (.cells #[.int .u8 48] 5)) from ab hbel _);have hS2:=HS.out;rw[hm0,Int.add_zero] at hS2;have HS2:=AJ hS2;clear hs hS2 hm;go_wp2_with fail;go_roundg(gk/10);case measure=>omega
      case rel=>exact⟨gk/10,byteOf 48::sl,by rw[fw];rfl,congrArg (Value.int .i64) hx10,rfl,by omega,HS2.out,HB.out⟩
  ·obtain⟨u0,hu0,hu1⟩: ∃u:Nat,n=(u:Int)∧0<u:=⟨n.toNat,by omega,by omega⟩;have hr0:r=strOf (Lib.decDigits u0):=by rw[hr];unfold eK Lib.itoa;rw[if_neg hneg];congr 2;omega
   have R:=AJ hr0;clear hr hr0;have hul:u0≤9223372036854775808:=by omega
   subst hu0;have hneg2:decide ((u0:Int)<0)=false:=decide_eq_false hneg;go_enter Tryz.func109,Tryz.ntmps109;go_wp2_with fail;go_loopg[3,4,5] u0 (fun gk ss xx dd wr=> ∃(u:Nat) (kc:Int) (sl:List UInt8),ss=.string (strOf sl)∧xx=.int .i64 kc∧Hid (kc=(u:Int))∧0≤kc∧kc≤9223372036854775807∧gk=u∧u≤u0∧Hid ((0<u→Lib.decDigits u++sl=Lib.decDigits u0)∧(u=0→sl=Lib.decDigits u0))∧Below w.heap.size w wr);case atStart=>exact⟨u0,u0,[],rfl,rfl,rfl,by omega,by omega,rfl,by omega,⟨fun _=>by simp,fun h=>by omega⟩,ae w⟩
   case round=>
    obtain⟨u,kc,sl,rfl,rfl,hkc,hk0,hk1,hgk,hul0,hT,hbel⟩:=hrel;subst hgk;have hsl:=uC hul hT.out;have hz:(strOf sl).size≤20:=by rw[dk];omega
    rcases Nat.eq_zero_or_pos gk with rfl|hpos
    ·have hk00:kc=0:=hkc.out;subst hk00;have he:sl=Lib.decDigits u0:=hT.out.2 rfl;have HE:=AJ he;clear he;have hz2: ¬(9223372036854775807<1+(strOf sl).size):=by omega
     go_wp2_with fail;go_ret;exact⟨by rw[R.out,←HE.out];rfl,hbel⟩
    ·have hkk:=hkc.out;have hq:(kc != 0)=true:=by simp;omega
     have hx10:Hid (kc/10=((gk/10:Nat):Int)):=by show _=_;omega
     have hx11:(0:Int)≤kc/10:=by omega
     have hx12:kc/10≤9223372036854775807:=by omega
     have HS0:=rF hpos (hT.out.1 hpos);rw[←hkk] at HS0;have HS:=AJ HS0;clear HS0 hkk;rcases Int.lt_or_le 0 (kc%10) with hm|hm
     ·have hm': ¬(kc%10≤0):=by omega
      have hmm:(0:Int)≤kc%10:=by omega
      have hs:SA (wr.alloc (.cells #[.int .u8 (48+kc%10)] 5)) [byteOf (48+kc%10)] (some ⟨wr.heap.size,0,none⟩) 1:=by have:=(ay.lF (RF.byte (base:=wr.heap.size) (w:=wr) (byteOf (48+kc%10))) 5 (Nat.le_refl _)).sf.2.sa;rw[fR,Int.emod_eq_of_lt (by omega) (by omega)] at this;exact this
      have hcv:=bc (P:=Tryz.prog) Tryz.underlying22 Tryz.underlying5 Tryz.underlying9 hs;rw[List.length_singleton] at hcv;have hsz:(strOf [byteOf (48+kc%10)]).size=1:=by simp[dk]
      have hz2: ¬(9223372036854775807<(strOf [byteOf (48+kc%10)]).size+(strOf sl).size):=by omega
      have HB:=AJ (show Below w.heap.size w (wr.alloc (.cells #[.int .u8 (48+kc%10)] 5)) from ab hbel _);clear hs;go_wp2_with fail;go_roundg(gk/10);case measure=>omega
      case rel=>exact⟨gk/10,kc/10,byteOf (48+kc%10)::sl,by rw[fw];rfl,rfl,hx10,hx11,hx12,rfl,by omega,HS.out,HB.out⟩
     ·have hm0:kc%10=0:=by omega
      have hs:SA (wr.alloc (.cells #[.int .u8 48] 5)) [byteOf 48] (some ⟨wr.heap.size,0,none⟩) 1:=by have:=(ay.lF (RF.byte (base:=wr.heap.size) (w:=wr) (byteOf 48)) 5 (Nat.le_refl _)).sf.2.sa;rw[fR,Int.emod_eq_of_lt (by omega) (by omega)] at this;exact this
      have hcv:=bc (P:=Tryz.prog) Tryz.underlying22 Tryz.underlying5 Tryz.underlying9 hs;rw[List.length_singleton] at hcv;have hsz:(strOf [byteOf 48]).size=1:=by simp[dk]
      have hz2: ¬(9223372036854775807<(strOf [byteOf 48]).size+(strOf sl).size):=by omega
      have HB:=AJ (show Below w.heap.size w (wr.alloc (.cells #[.int .u8 48] 5)) from ab hbel _);have hS2:=HS.out;rw[hm0,Int.add_zero] at hS2;have HS2:=AJ hS2;clear hs hS2 hm;go_wp2_with fail;go_roundg(gk/10);case measure=>omega
      case rel=>exact⟨gk/10,kc/10,byteOf 48::sl,by rw[fw];rfl,rfl,hx10,hx11,hx12,rfl,by omega,HS2.out,HB.out⟩
end
def iR:aa:=⟨1,0,0,.empty,[]⟩
def iI(s:ByteArray):aa:=⟨7,0,0,s,[]⟩
def b9(n x:Int):aa:=if x=0 then⟨3,n,0,.empty,[]⟩ else⟨6,n,x,.empty,[]⟩
def aB(n x:Int):aa×Int:=match eL n x with|none=>(iR,3)|some (m,e)=>(⟨4,m,e,.empty,[]⟩,if aI m e=(n,x) then 1 else 2)
def mQ(b:Nat):UInt8:=if b<10 then UInt8.ofNat (48+b) else UInt8.ofNat (87+b)
def oo(l:List UInt8):List UInt8:=l.flatMap fun b=>[mQ (b.toNat/16),mQ (b.toNat%16)]
def mJ(s:ByteArray):ByteArray:=strOf (oo s.data.toList)
def bn(way:Int):Bool:=decide (way=1∨way=4)
def bZ(way:Int)(v:aa):aa×Int:=if v.kind=3∧way=4 then aB v.n v.x else if v.kind=6∧(way=2∨way=3∨way=4) then aB v.n v.x else if v.kind=4∧way=1 then(b9 (aI v.n v.x).1 (aI v.n v.x).2,1) else if v.kind=5∧bn way=true then(iR,4) else if v.kind=8∧bn way=true then(iI (mJ v.s),5) else(v,0)
def fj(v:aa):aa:=if v.kind=7 then v else iI (eK v.n)
def gz(v:aa):List UInt8:=if v.kind=7 then UInt8.ofNat (96+v.s.size)::v.s.data.toList else[UInt8.ofNat v.n.toNat]
def eE(a b:aa):Bool:=eC (gz a) (gz b)
structure ah where
  at_ : Nat
  name : aa
  nl : List ag
  val : aa
  vl : List ag
def aE:List (aa×List ag)→Nat→List ah|a::b::l,i=>⟨i,a.1,a.2,b.1,b.2⟩::aE l (i+1)|_,_=>[]
def cG(c:ah)(l:List ah):Bool:=l.any fun d=>decide (d.name=c.name)
def au:List ah→List ah|[]=>[]|c::l=>if cG c l then au l else c::au l
def aY(p:List GStep):List ah→List ag|[]=>[]|c::l=>(if cG c l then[⟨8,p++[⟨c.at_,true⟩]⟩] else c.nl++c.vl)++aY p l
def aU(a b:ah):Bool:=eE a.name b.name
def aZ(way:Int)(l:List ah):List ah:=if way=2 then aq aU [] l else l
def eF(way:Int)(cs:List ah)(p:List GStep):aa×List ag:=(⟨10,0,0,.empty,(aZ way (au cs)).flatMap fun c=>[c.name,c.val]⟩,aY p cs++if(aZ way (au cs)).map ah.at_=(au cs).map ah.at_ then[] else[⟨9,p⟩])
def gB(k:Int)(i:Nat):GStep:=if k=10 then⟨((i/2:Nat):Int),decide (i%2=0)⟩ else⟨i,false⟩
mutual
def projP (way : Int) : aa → List GStep → aa × List ag
  | ⟨k, n, x, s, l⟩, p =>
    if k = 10 then eF way (aE (projL way 10 l 0 p) 0) p
    else if k = 9 then (⟨9, 0, 0, .empty, (projL way 9 l 0 p).map (·.1)⟩, (projL way 9 l 0 p).flatMap (·.2))
    else if k = 11 then (if way = 2 then (⟨11, n, 0, .empty, (projL way 11 l 0 p).map (·.1)⟩, (projL way 11 l 0 p).flatMap (·.2))
      else (((projL way 11 l 0 p).head?.map (·.1)).getD iR, (projL way 11 l 0 p).flatMap (·.2) ++ [⟨6, p⟩]))
    else ((bZ way ⟨k, n, x, s, l⟩).1, if (bZ way ⟨k, n, x, s, l⟩).2 = 0 then [] else [⟨(bZ way ⟨k, n, x, s, l⟩).2, p⟩])
def projL (way k : Int) : List aa → Nat → List GStep → List (aa × List ag)
  | [], _, _ => []
  | a :: l, i, p => (if k = 10 ∧ i % 2 = 0 ∧ bn way = true then (fj a, if a.kind = 7 then [] else [⟨7, p ++ [gB k i]⟩]) else projP way a (p ++ [gB k i])) :: projL way k l (i + 1) p
end
def cU(way k:Int)(a:aa)(i:Nat)(p:List GStep):aa×List ag:=if k=10∧i%2=0∧bn way=true then(fj a,if a.kind=7 then[] else[⟨7,p++[gB k i]⟩]) else projP way a (p++[gB k i])
theorem cD(way k:Int)(a:aa)(l:List aa)(i:Nat)(p:List GStep):projL way k (a::l) i p=cU way k a i p::projL way k l (i+1) p:=by
 rw[projL,cU]
theorem bJ(way k:Int)(p:List GStep): ∀(l:List aa)(i:Nat),(projL way k l i p).length=l.length|[],i=>by rw[projL];rfl|a::l,i=>by rw[cD,List.length_cons,bJ way k p l,List.length_cons]
theorem dq(way k:Int)(p:List GStep): ∀(l:List aa)(i j:Nat)(h:j<l.length),(projL way k l i p)[j]'(by rw[bJ];exact h)=cU way k l[j] (i+j) p|a::l,i,0,h=>by simp only[cD,List.getElem_cons_zero,Nat.add_zero]|a::l,i,j+1,h=>by simp only[cD,List.getElem_cons_succ];rw[dq way k p l (i+1) j (by simpa using h)];rw[show i+1+j=i+(j+1) by omega]
theorem dM{way:Int}{v:aa}(h:v.kind=10)(p:List GStep):projP way v p=eF way (aE (projL way 10 v.l 0 p) 0) p:=by
 cases v;subst h;rw[projP];simp
theorem eh{way:Int}{v:aa}(h:v.kind=9)(p:List GStep):projP way v p=(⟨9,0,0,.empty,(projL way 9 v.l 0 p).map (·.1)⟩,(projL way 9 v.l 0 p).flatMap (·.2)):=by
 cases v;subst h;rw[projP];simp
theorem gD{way:Int}{v:aa}(h:v.kind=11)(a:aa)(hl:v.l=[a])(p:List GStep):projP way v p=(if way=2 then(⟨11,v.n,0,.empty,[(projP way a (p++[⟨0,false⟩])).1]⟩,(projP way a (p++[⟨0,false⟩])).2) else((projP way a (p++[⟨0,false⟩])).1,(projP way a (p++[⟨0,false⟩])).2++[⟨6,p⟩])):=by
 obtain⟨k,n,x,s,l⟩:=v;subst h hl;rw[projP];simp[projL,gB]
theorem ei{way:Int}{v:aa}(h9:v.kind≠9)(h10:v.kind≠10)(h11:v.kind≠11)(p:List GStep):projP way v p=((bZ way v).1,if(bZ way v).2=0 then[] else[⟨(bZ way v).2,p⟩]):=by
 cases v;rw[projP,if_neg h10,if_neg h9,if_neg h11]
def cK(way:Int)(v:aa):aa×List ag:=if valOkP v=true∧1≤way∧way≤4 then((projP way v []).1,ch (projP way v []).2) else(⟨0,0,0,.empty,[]⟩,[])

def bN(u:aa):Prop:=u.x=0∧u.l=[]∧((u.kind=3∧0≤u.n∧u.n≤3∧u.s=.empty)∨(u.kind=7∧u.n=0∧u.s.size≤8∧cd u.s=true))
def fU(v:aa):Prop:= ∀u,u∈preG v→u.kind=10→u.l.length≤6∧ ∀i(h:i<u.l.length),i%2=0→bN u.l[i]
def gE(l:List aa):Prop:= ∀u,u∈preL l→u.kind=10→u.l.length≤6∧ ∀i(h:i<u.l.length),i%2=0→bN u.l[i]
theorem fU.of{v:aa}(h:v.kind=10→v.l.length≤6∧ ∀i(h:i<v.l.length),i%2=0→bN v.l[i])(hl:gE v.l):fU v:=by
 intro u hu;rw[qm] at hu;rcases List.mem_cons.1 hu with rfl|hu;·exact h
 ·exact hl u hu
theorem fU.own{v:aa}(h:fU v)(hk:v.kind=10):v.l.length≤6∧ ∀i(h:i<v.l.length),i%2=0→bN v.l[i]:=h v (by rw[qm];simp) hk
theorem fU.sub{v:aa}(h:fU v):gE v.l:=fun u hu=>h u (by rw[qm];simp[hu])
theorem rj{l:List aa}{u:aa}:u∈preL l↔ ∃a∈l,u∈preG a:=by
 induction l with|nil=>simp[preL]|cons b l ih=>rw[preL,List.mem_append,ih];simp
theorem gE.at{l:List aa}(h:gE l){a:aa}(ha:a∈l):fU a:=fun u hu=>h u (rj.2 ⟨a,ha,hu⟩)
theorem gE.all{l:List aa}(h: ∀a∈l,fU a):gE l:=fun u hu=>let⟨a,ha,hu'⟩:=rj.1 hu;h a ha u hu'
theorem bN.ze{u:aa}(h:bN u):fU u:=by
 refine fU.of (fun hk=> ?_) (by rw[h.2.1];intro u hu;simp[preL] at hu);rcases h.2.2 with h|h;·omega
 ·omega

mutual
def potG : aa → Nat
  | ⟨k, _, _, s, l⟩ => (if k = 8 then 2 * s.size else if k = 3 ∨ k = 4 ∨ k = 6 then 24 else s.size) + potL l
def potL : List aa → Nat
  | [] => 0
  | a :: l => 1 + potG a + potL l
end
theorem aR(v:aa):potG v=(if v.kind=8 then 2*v.s.size else if v.kind=3∨v.kind=4∨v.kind=6 then 24 else v.s.size)+potL v.l:=by
 cases v;rw[potG]
theorem uq(l:List aa):potL l=l.length+(l.map potG).sum:=by
 induction l with|nil=>simp[potL]|cons a l ih=>simp only[potL,List.length_cons,List.map_cons,List.sum_cons,ih];omega
theorem fc{l:List aa}{a:aa}(h:a∈l):1+potG a≤potL l:=by
 induction l with|nil=>cases h|cons b l ih=>rw[potL];rcases List.mem_cons.1 h with rfl|h;(·omega);·have:=ih h;omega
theorem dJ(way:Int)(l:List ah):(aZ way l).Perm l:=by
 unfold aZ;split;·have:=bD aU l [];simpa using this
 ·exact .refl _
def aj(cs:List ah):List aa:=cs.flatMap fun c=>[c.name,c.val]
theorem a7(c:ah)(cs:List ah):aj (c::cs)=c.name::c.val::aj cs:=by
 simp[aj]
theorem cJ: ∀cs,(aj cs).length=2*cs.length|[]=>rfl|c::cs=>by rw[a7];simp only[List.length_cons,cJ cs];omega
theorem nU: ∀(r:List (aa×List ag))(i:Nat)(c:ah),c∈aE r i→ ∃j,∃h:2*j+1<r.length,c=⟨i+j,r[2*j].1,r[2*j].2,r[2*j+1].1,r[2*j+1].2⟩|[],i,c,h=>by simp[aE] at h|[a],i,c,h=>by simp[aE] at h|a::b::l,i,c,h=>by rw[aE] at h;rcases List.mem_cons.1 h with rfl|h;(·exact⟨0,by simp,by simp⟩);·obtain⟨j,hj,rfl⟩:=nU l (i+1) c h;refine⟨j+1,by simp;omega,?_⟩;simp only[show 2*(j+1)=2*j+1+1 by omega,List.getElem_cons_succ];congr 1;omega
theorem mi: ∀(r:List (aa×List ag))(i:Nat),r.length%2=0→aj (aE r i)=r.map (·.1)|[],i,h=>rfl|[a],i,h=>by simp at h|a::b::l,i,h=>by rw[aE,a7,mi l (i+1) (by simp only[List.length_cons] at h;omega)];rfl
theorem gA: ∀(l:List ah)(c:ah),c∈au l→c∈l|[],c,h=>h|d::l,c,h=>by rw[au] at h;split at h;(·exact List.mem_cons_of_mem _ (gA l c h));·rcases List.mem_cons.1 h with rfl|h;(·simp);·exact List.mem_cons_of_mem _ (gA l c h)
theorem jx{c:ah}{l:List ah}:cG c l=true↔c.name∈l.map ah.name:=by
 unfold cG;simp only[List.any_eq_true,decide_eq_true_eq,List.mem_map]
theorem mj: ∀(l:List ah),((au l).map ah.name).Nodup∧ ∀x,x∈(au l).map ah.name↔x∈l.map ah.name|[]=>⟨by simp[au],by simp[au]⟩|c::l=>by obtain⟨h1,h2⟩:=mj l;rw[au];by_cases h:cG c l=true;(·rw[if_pos h];refine⟨h1,fun x=> ?_⟩;rw[h2,List.map_cons,List.mem_cons];have:=jx.1 h;constructor;(·exact .inr);·rintro(rfl|h3);(·exact this);·exact h3);·rw[if_neg h];refine⟨?_,fun x=> ?_⟩;(·rw[List.map_cons,List.nodup_cons];exact⟨fun h3=>h (jx.2 ((h2 _).1 h3)),h1⟩);·rw[List.map_cons,List.map_cons,List.mem_cons,List.mem_cons,h2]
theorem qT: ∀(l:List ah),(l.map ah.name).Nodup→au l=l|[],_=>rfl|c::l,h=>by rw[List.map_cons,List.nodup_cons] at h;rw[au,if_neg (fun h3=>h.1 (jx.1 h3)),qT l h.2]
theorem vO{way:Int}{l:List ah}{c:ah}(h:c∈aZ way (au l)):c∈l:=gA l c ((dJ way (au l)).mem_iff.1 h)
def Fix(way:Int)(u:aa):Prop:= ∀q,projP way u q=(u,[])
theorem wS{way:Int}{u:aa}(h9:u.kind≠9)(h10:u.kind≠10)(h11:u.kind≠11)(h:bZ way u=(u,0)):Fix way u:=by
 intro q;rw[ei h9 h10 h11,h];simp
theorem kY(n x:Int):(aB n x).2≠0:=by
 unfold aB;split;·simp
 ·simp only;split<;>simp
theorem nX{way:Int}{v:aa}(h:v.kind=1∨v.kind=7∨(v.kind=4∧way≠1)∨(v.kind=3∧way≠4)∨(v.kind=6∧way=1)):bZ way v=(v,0):=by
 unfold bZ bn;rw[if_neg (by omega),if_neg (by omega),if_neg (by omega),if_neg (by omega),if_neg (by omega)]
theorem flatMap_nil{α β:Type}{f:α→List β}: ∀{l:List α},l.flatMap f=[]→ ∀a∈l,f a=[]|[],_,a,h=>absurd h (by simp)|b::l,e,a,h=>by rw[List.flatMap_cons,List.append_eq_nil_iff] at e;rcases List.mem_cons.1 h with rfl|h;(·exact e.1);·exact flatMap_nil e.2 a h
theorem kP(p:List GStep): ∀{l:List ah},aY p l=[]→(l.map ah.name).Nodup∧ ∀c∈l,c.nl=[]∧c.vl=[]|[],_=>⟨by simp,by simp⟩|c::l,h=>by rw[aY,List.append_eq_nil_iff] at h;obtain⟨h1,h2⟩:=kP p h.2;by_cases hg:cG c l=true;(·rw[if_pos hg] at h;simp at h);·rw[if_neg hg,List.append_eq_nil_iff] at h;refine⟨?_,fun d hd=> ?_⟩;(·rw[List.map_cons,List.nodup_cons];exact⟨fun h3=>hg (jx.2 h3),h1⟩);·rcases List.mem_cons.1 hd with rfl|hd;(·exact h.1);·exact h2 d hd
theorem tn{way:Int}{v:aa}(h:(bZ way v).2=0):(bZ way v).1=v:=by
 unfold bZ at h ⊢;split at h;·exact absurd h (kY _ _)
 ·split at h;·exact absurd h (kY _ _)
  ·split at h;·simp at h
   ·split at h;·simp at h
    ·split at h;·simp at h
     ·rename_i h1 h2 h3 h4 h5;rw[if_neg h1,if_neg h2,if_neg h3,if_neg h4,if_neg h5]
theorem ta{v:aa}(h:af v=true)(hk:v.kind=9):v=⟨9,0,0,.empty,v.l⟩:=by
 obtain⟨k,n,x,s,l⟩:=v;simp only at hk;subst hk;simp[af] at h;obtain⟨rfl,rfl,rfl⟩:=h;rfl
theorem dP{v:aa}(h:af v=true)(hk:v.kind=10):v=⟨10,0,0,.empty,v.l⟩∧v.l.length%2=0:=by
 obtain⟨k,n,x,s,l⟩:=v;simp only at hk;subst hk;simp[af] at h;obtain⟨rfl,rfl,rfl,h⟩:=h;exact⟨rfl,by simpa using h⟩
theorem gJ{v:aa}(h:af v=true)(hk:v.kind=11): ∃a,v=⟨11,v.n,0,.empty,[a]⟩∧0≤v.n∧v.n≤1000000000000000:=by
 obtain⟨k,n,x,s,l⟩:=v;simp only at hk;subst hk;simp[af] at h;obtain⟨⟨h1,h2⟩,rfl,rfl,h⟩:=h;obtain⟨a,rfl⟩:=List.length_eq_one_iff.1 h;exact⟨a,rfl,h1,h2⟩
theorem tY{way k:Int}{a:aa}{i:Nat}{p:List GStep}(h:(cU way k a i p).2=[])(IH: ∀p,(projP way a p).2=[]→(projP way a p).1=a):(cU way k a i p).1=a:=by
 unfold cU at h ⊢;by_cases hc:k=10∧i%2=0∧bn way=true
 ·rw[if_pos hc] at h ⊢;simp only at h ⊢;by_cases h7:a.kind=7;·unfold fj;rw[if_pos h7]
  ·rw[if_neg h7] at h;simp at h
 ·rw[if_neg hc] at h ⊢;exact IH _ h
theorem oB{way k:Int}{l:List aa}{p:List GStep}(h: ∀r∈projL way k l 0 p,r.2=[])(IH: ∀i(hi:i<l.length) p,(projP way l[i] p).2=[]→(projP way l[i] p).1=l[i]):(projL way k l 0 p).map (·.1)=l:=by
 apply List.ext_getElem (by rw[List.length_map,bJ]);intro i h1 h2;rw[List.getElem_map,dq way k p l 0 i h2];refine tY ?_ (IH i h2);rw[←dq way k p l 0 i h2];exact h _ (List.getElem_mem _)
theorem mg: ∀(r:List (aa×List ag))(i:Nat),r.length%2=0→(∀c∈aE r i,c.nl=[]∧c.vl=[])→ ∀x∈r,x.2=[]|[],i,_,_,x,h=>by cases h|[a],i,he,_,x,h=>by simp at he|a::b::l,i,he,hc,x,h=>by rw[aE] at hc;have h0:=hc _ (List.mem_cons_self ..);rcases List.mem_cons.1 h with rfl|h;(·exact h0.1);·rcases List.mem_cons.1 h with rfl|h;(·exact h0.2);·exact mg l (i+1) (by simp only[List.length_cons] at he;omega) (fun c hc'=>hc c (List.mem_cons_of_mem _ hc')) x h
theorem jn: ∀(r:List (aa×List ag))(i:Nat),(aE r i).map ah.at_=(List.range' i (r.length/2))|[],i=>by simp[aE]|[a],i=>by simp[aE]|a::b::l,i=>by rw[aE,List.map_cons,jn l (i+1)];(have:(a::b::l).length/2=l.length/2+1:=by simp only[List.length_cons];omega);rw[this,List.range'_succ]
theorem xp{a b:List ah}(hp:a.Perm b)(hn:(b.map ah.at_).Nodup)(h:a.map ah.at_=b.map ah.at_):a=b:=by
 have hlen:a.length=b.length:=hp.length_eq;apply List.ext_getElem hlen;intro i h1 h2;have e:(a[i]).at_=(b[i]).at_:=by have:=congrArg (fun l=>l[i]?) h;simp only[List.getElem?_map,List.getElem?_eq_getElem h1,List.getElem?_eq_getElem h2,Option.map_some,Option.some.injEq] at this;exact this
 have hm:a[i]∈b:=hp.mem_iff.1 (List.getElem_mem h1);obtain⟨j,hj,ej⟩:=List.getElem_of_mem hm;have:(b.map ah.at_)[j]'(by simpa using hj)=(b.map ah.at_)[i]'(by simpa using h2):=by simp[ej,e]
 have:=(List.getElem_inj hn).1 this;subst this;exact ej.symm
theorem tR(way:Int)(v:aa):valOkP v=true→ ∀p,(projP way v p).2=[]→(projP way v p).1=v:=by
 refine aa.ind (p:=fun v=>valOkP v=true→ ∀p,(projP way v p).2=[]→(projP way v p).1=v) (fun v IH hok p h=> ?_) v;obtain⟨ho,hl⟩:=aQ hok;have IH': ∀i(hi:i<v.l.length) p,(projP way v.l[i] p).2=[]→(projP way v.l[i] p).1=v.l[i]:=fun i hi=>IH i hi (bB hl hi);by_cases h9:v.kind=9;·rw[eh h9] at h ⊢;simp only at h ⊢;rw[oB (fun r hr=>flatMap_nil h r hr) IH'];exact(ta ho h9).symm
 ·by_cases h10:v.kind=10
  ·rw[dM h10] at h ⊢;obtain⟨hv,heven⟩:=dP ho h10;unfold eF at h ⊢;simp only[List.append_eq_nil_iff] at h;obtain⟨h1,h2⟩:=h;obtain⟨h3,h4⟩:=kP p h1;have hr2:(projL way 10 v.l 0 p).length%2=0:=by rw[bJ];exact heven
   have hk:=qT _ h3;rw[hk] at h2 ⊢;have hat:(aZ way (aE (projL way 10 v.l 0 p) 0)).map ah.at_=(aE (projL way 10 v.l 0 p) 0).map ah.at_:=by by_cases e:(aZ way (aE (projL way 10 v.l 0 p) 0)).map ah.at_=(aE (projL way 10 v.l 0 p) 0).map ah.at_;(·exact e);·rw[if_neg e] at h2;simp at h2
   rw[xp (dJ way _) (by rw[jn];exact List.nodup_range') hat];have hf:=mi (projL way 10 v.l 0 p) 0 hr2;unfold aj at hf;simp only;rw[hf,oB (mg _ 0 hr2 h4) IH'];exact hv.symm
  ·by_cases h11:v.kind=11
   ·obtain⟨a,hv,_⟩:=gJ ho h11;have ha:v.l=[a]:=by rw[hv]
    rw[gD h11 a ha] at h ⊢;by_cases h2:way=2
    ·rw[if_pos h2] at h ⊢;simp only at h ⊢;have ha0:v.l[0]'(by rw[ha];simp)=a:=by simp[ha]
     have:=IH' 0 (by rw[ha];simp) (p++[⟨0,false⟩]) (by rw[ha0];exact h);rw[ha0] at this;rw[this,hv]
    ·rw[if_neg h2] at h;simp at h
   ·rw[ei h9 h10 h11] at h ⊢;simp only at h ⊢;by_cases e:(bZ way v).2=0;·exact tn e
    ·rw[if_neg e] at h;simp at h
end Go.Proofs.YtodpdjehjllhdaaGreatDoor
