/- Part of a proof: contracts and plain laws. -/
import Derived.Test.YtodpdjehjllhdaaGreatDoorK02
import Derived.Lib.AppendIntMem
set_option linter.unusedVariables false
set_option linter.unusedSimpArgs false
set_option maxRecDepth 100000
set_option maxHeartbeats 20000000
namespace Go.Proofs.YtodpdjehjllhdaaGreatDoor
open Go.RowKit
section
open Go.RowKit Go.Sort
def qC(w:World):Prop:=Lib.TabIs Tryz.prog w "internal/strconv.uint64pow10" .u64 Lib.pow10Tab
theorem qC.below{w w':World}(h:qC w)(hb:Below w.heap.size w w'):qC w':=Lib.tabBelow_of_tabIs h w' hb
theorem below_grow(w:World)(k:Nat)(os:Array Obj):Below w.heap.size w (grow (w.drewN k) os):=⟨rfl,rfl,rfl,by simp[grow,World.drewN],fun b hb=>by simp[grow,World.drewN,Array.getElem?_append_left hb]⟩
def eK(n:Int):ByteArray:=strOf (Lib.itoa n)
theorem jU: ∀(k u:Nat),u<10^(k+1)→(Lib.decDigits u).length≤k+1|0,u,h=>by rw[Lib.decDigits,dif_pos (by simpa using h)];simp|k+1,u,h=>by rw[Lib.decDigits];split;(·simp);·(have h2:u/10<10^(k+1):=by rw[Nat.pow_succ] at h;omega);have:=jU k (u/10) h2;simp;omega
theorem fH(a b:List UInt8):strOf a++strOf b=strOf (a++b):=by
 apply ByteArray.ext;simp[strOf]
theorem yP(u:Nat):byteOf (48+(u:Int)%10)=UInt8.ofNat (48+u%10):=by
 unfold byteOf;congr 1;omega
theorem rL{u0 u:Nat}{sl:List UInt8}(hu:0<u)(h:Lib.decDigits u++sl=Lib.decDigits u0):(0<u/10→Lib.decDigits (u/10)++(byteOf (48+(u:Int)%10)::sl)=Lib.decDigits u0)∧(u/10=0→byteOf (48+(u:Int)%10)::sl=Lib.decDigits u0):=by
 rw[yP];rw[Lib.decDigits] at h;split at h;·rename_i hlt;refine⟨fun h2=>by omega,fun _=> ?_⟩;rw[←h,show u%10=u by omega];rfl
 ·rename_i hge;refine⟨fun _=>by rw[←h,List.append_assoc];rfl,fun h2=>by omega⟩
theorem ve{u0 u:Nat}{sl:List UInt8}(h0:u0≤9223372036854775808)(h:(0<u→Lib.decDigits u++sl=Lib.decDigits u0)∧(u=0→sl=Lib.decDigits u0)):sl.length≤19:=by
 have h1:=jU 18 u0 (by omega);rcases Nat.eq_zero_or_pos u with e|e;·rw[h.2 e];omega
 ·have:=congrArg List.length (h.1 e);rw[List.length_append] at this;omega
theorem iB(n:Int)(w:World)(hI:a8 n)(ht:qC w):Calls Tryz.prog 106 #[.int .i64 n] w (bN w (.string (eK n))):=by
 have hC:=Tryz.strconv_Itoa n hI.1 hI.2 w ht;have HC:=Ad hC;clear hC ht;go_enter Tryz.func106,Tryz.ntmps106;go_wp2_with fail;refine HC.out.mono ?_;rintro e w1 ⟨rfl,k,os,hw1⟩;have hb:Below w.heap.size w w1:=by rw[hw1];exact below_grow w k os
 have HB:=Ad hb;clear hb hw1;go_wp2_with fail;go_ret;exact⟨rfl,HB.out⟩
theorem mW(n:Int)(w:World)(hI:a8 n):Calls Tryz.prog 109 #[.int .i64 n] w (bN w (.string (eK n))):=by
 obtain⟨r,hr⟩: ∃r,r=eK n:=⟨_,rfl⟩;rw[←hr];have hi1:=hI.1;have hi2:=hI.2;by_cases h0:n=0
 ·subst h0;have hr0:r=strOf [48]:=by rw[hr];unfold eK Lib.itoa;rw[if_neg (by omega),Lib.decDigits,dif_pos (by simp)];rfl
  have R:=Ad hr0;clear hr hr0;go_enter Tryz.func109,Tryz.ntmps109;go_wp2_with fail;go_ret;exact⟨by rw[R.out];rfl,ae w⟩
 ·have hn0:(n==0)=false:=by rw[beq_eq_false_iff_ne];exact h0
  have h0':n≠0:=h0;by_cases hneg:n<0
  ·obtain⟨u0,hu0,hu1⟩: ∃u:Nat,n= -(u:Int)∧0<u:=⟨n.natAbs,by omega,by omega⟩;have hr0:r=strOf (45::Lib.decDigits u0):=by rw[hr];unfold eK Lib.itoa;rw[if_pos hneg];congr 2;rw[show n.natAbs=u0 by omega]
   have R:=Ad hr0;clear hr hr0;have hul:u0≤9223372036854775808:=by omega
   subst hu0;go_enter Tryz.func109,Tryz.ntmps109;go_wp2_with fail;go_loopg[3,4,5] u0 (fun gk ss xx dd wr=> ∃(u:Nat) (sl:List UInt8),ss=.string (strOf sl)∧xx=.int .i64 (-(u:Int))∧gk=u∧u≤u0∧Hid ((0<u→Lib.decDigits u++sl=Lib.decDigits u0)∧(u=0→sl=Lib.decDigits u0))∧Below w.heap.size w wr);case atStart=>exact⟨u0,[],rfl,rfl,rfl,by omega,⟨fun _=>by simp,fun h=>by omega⟩,ae w⟩
   case round=>
    obtain⟨u,sl,rfl,rfl,hgk,hul0,hT,hbel⟩:=hrel;subst hgk;have hsl:=ve hul hT.out;have hz:(strOf sl).size≤20:=by rw[cX];omega
    rcases Nat.eq_zero_or_pos gk with rfl|hpos
    ·have he:sl=Lib.decDigits u0:=hT.out.2 rfl;have HE:=Ad he;clear he;have hz2: ¬(9223372036854775807<1+(strOf sl).size):=by omega
     go_wp2_with fail;go_ret;exact⟨by rw[R.out,←HE.out];rfl,hbel⟩
    ·have hq:((-(gk:Int)) != 0)=true:=by simp;omega
     have ht1:(-(gk:Int)).tmod 10= -((gk:Int)%10):=by rw[Int.neg_tmod,Int.tmod_eq_emod_of_nonneg (by omega)]
     have ht2:(-(gk:Int)).tdiv 10= -((gk:Int)/10):=by rw[Int.neg_tdiv,Int.tdiv_eq_ediv_of_nonneg (by omega)]
     have hx10:(-((gk:Int)/10))=(-((gk/10:Nat):Int)):=by omega
     have HS:=Ad (rL hpos (hT.out.1 hpos));rcases Int.lt_or_le 0 ((gk:Int)%10) with hm|hm
     ·have hm': ¬((gk:Int)%10≤0):=by omega
      have hmm:(0:Int)≤(gk:Int)%10:=by omega
      have hs:SA (wr.alloc (.cells #[.int .u8 (48+(gk:Int)%10)] 5)) [byteOf (48+(gk:Int)%10)] (some ⟨wr.heap.size,0,none⟩) 1:=by have:=(ay.ow (RF.byte (base:=wr.heap.size) (w:=wr) (byteOf (48+(gk:Int)%10))) 5 (Nat.le_refl _)).sf.2.sa;rw[fZ,Int.emod_eq_of_lt (by omega) (by omega)] at this;exact this
      have hcv:=bd (P:=Tryz.prog) Tryz.underlying22 Tryz.underlying5 Tryz.underlying9 hs;rw[List.length_singleton] at hcv;have hsz:(strOf [byteOf (48+(gk:Int)%10)]).size=1:=by simp[cX]
      have hz2: ¬(9223372036854775807<(strOf [byteOf (48+(gk:Int)%10)]).size+(strOf sl).size):=by omega
      have HB:=Ad (show Below w.heap.size w (wr.alloc (.cells #[.int .u8 (48+(gk:Int)%10)] 5)) from ab hbel _);clear hs;go_wp2_with fail;go_roundg(gk/10);case measure=>omega
      case rel=>exact⟨gk/10,byteOf (48+(gk:Int)%10)::sl,by rw[fH];rfl,congrArg (Value.int .i64) hx10,rfl,by omega,HS.out,HB.out⟩
     ·have hm0:(gk:Int)%10=0:=by omega
      have hs:SA (wr.alloc (.cells #[.int .u8 48] 5)) [byteOf 48] (some ⟨wr.heap.size,0,none⟩) 1:=by have:=(ay.ow (RF.byte (base:=wr.heap.size) (w:=wr) (byteOf 48)) 5 (Nat.le_refl _)).sf.2.sa;rw[fZ,Int.emod_eq_of_lt (by omega) (by omega)] at this;exact this
      have hcv:=bd (P:=Tryz.prog) Tryz.underlying22 Tryz.underlying5 Tryz.underlying9 hs;rw[List.length_singleton] at hcv;have hsz:(strOf [byteOf 48]).size=1:=by simp[cX]
      have hz2: ¬(9223372036854775807<(strOf [byteOf 48]).size+(strOf sl).size):=by omega
      have HB:=Ad (show Below w.heap.size w (wr.alloc (.cells #[.int .u8 48] 5)) from ab hbel _);have hS2:=HS.out;rw[hm0,Int.add_zero] at hS2;have HS2:=Ad hS2;clear hs hS2 hm;go_wp2_with fail;go_roundg(gk/10);case measure=>omega
      case rel=>exact⟨gk/10,byteOf 48::sl,by rw[fH];rfl,congrArg (Value.int .i64) hx10,rfl,by omega,HS2.out,HB.out⟩
  ·obtain⟨u0,hu0,hu1⟩: ∃u:Nat,n=(u:Int)∧0<u:=⟨n.toNat,by omega,by omega⟩;have hr0:r=strOf (Lib.decDigits u0):=by rw[hr];unfold eK Lib.itoa;rw[if_neg hneg];congr 2;omega
   have R:=Ad hr0;clear hr hr0;have hul:u0≤9223372036854775808:=by omega
   subst hu0;have hneg2:decide ((u0:Int)<0)=false:=decide_eq_false hneg;go_enter Tryz.func109,Tryz.ntmps109;go_wp2_with fail;go_loopg[3,4,5] u0 (fun gk ss xx dd wr=> ∃(u:Nat) (kc:Int) (sl:List UInt8),ss=.string (strOf sl)∧xx=.int .i64 kc∧Hid (kc=(u:Int))∧0≤kc∧kc≤9223372036854775807∧gk=u∧u≤u0∧Hid ((0<u→Lib.decDigits u++sl=Lib.decDigits u0)∧(u=0→sl=Lib.decDigits u0))∧Below w.heap.size w wr);case atStart=>exact⟨u0,u0,[],rfl,rfl,rfl,by omega,by omega,rfl,by omega,⟨fun _=>by simp,fun h=>by omega⟩,ae w⟩
   case round=>
    obtain⟨u,kc,sl,rfl,rfl,hkc,hk0,hk1,hgk,hul0,hT,hbel⟩:=hrel;subst hgk;have hsl:=ve hul hT.out;have hz:(strOf sl).size≤20:=by rw[cX];omega
    rcases Nat.eq_zero_or_pos gk with rfl|hpos
    ·have hk00:kc=0:=hkc.out;subst hk00;have he:sl=Lib.decDigits u0:=hT.out.2 rfl;have HE:=Ad he;clear he;have hz2: ¬(9223372036854775807<1+(strOf sl).size):=by omega
     go_wp2_with fail;go_ret;exact⟨by rw[R.out,←HE.out];rfl,hbel⟩
    ·have hkk:=hkc.out;have hq:(kc != 0)=true:=by simp;omega
     have hx10:Hid (kc/10=((gk/10:Nat):Int)):=by show _=_;omega
     have hx11:(0:Int)≤kc/10:=by omega
     have hx12:kc/10≤9223372036854775807:=by omega
     have HS0:=rL hpos (hT.out.1 hpos);rw[←hkk] at HS0;have HS:=Ad HS0;clear HS0 hkk;rcases Int.lt_or_le 0 (kc%10) with hm|hm
     ·have hm': ¬(kc%10≤0):=by omega
      have hmm:(0:Int)≤kc%10:=by omega
      have hs:SA (wr.alloc (.cells #[.int .u8 (48+kc%10)] 5)) [byteOf (48+kc%10)] (some ⟨wr.heap.size,0,none⟩) 1:=by have:=(ay.ow (RF.byte (base:=wr.heap.size) (w:=wr) (byteOf (48+kc%10))) 5 (Nat.le_refl _)).sf.2.sa;rw[fZ,Int.emod_eq_of_lt (by omega) (by omega)] at this;exact this
      have hcv:=bd (P:=Tryz.prog) Tryz.underlying22 Tryz.underlying5 Tryz.underlying9 hs;rw[List.length_singleton] at hcv;have hsz:(strOf [byteOf (48+kc%10)]).size=1:=by simp[cX]
      have hz2: ¬(9223372036854775807<(strOf [byteOf (48+kc%10)]).size+(strOf sl).size):=by omega
      have HB:=Ad (show Below w.heap.size w (wr.alloc (.cells #[.int .u8 (48+kc%10)] 5)) from ab hbel _);clear hs;go_wp2_with fail;go_roundg(gk/10);case measure=>omega
      case rel=>exact⟨gk/10,kc/10,byteOf (48+kc%10)::sl,by rw[fH];rfl,rfl,hx10,hx11,hx12,rfl,by omega,HS.out,HB.out⟩
     ·have hm0:kc%10=0:=by omega
      have hs:SA (wr.alloc (.cells #[.int .u8 48] 5)) [byteOf 48] (some ⟨wr.heap.size,0,none⟩) 1:=by have:=(ay.ow (RF.byte (base:=wr.heap.size) (w:=wr) (byteOf 48)) 5 (Nat.le_refl _)).sf.2.sa;rw[fZ,Int.emod_eq_of_lt (by omega) (by omega)] at this;exact this
      have hcv:=bd (P:=Tryz.prog) Tryz.underlying22 Tryz.underlying5 Tryz.underlying9 hs;rw[List.length_singleton] at hcv;have hsz:(strOf [byteOf 48]).size=1:=by simp[cX]
      have hz2: ¬(9223372036854775807<(strOf [byteOf 48]).size+(strOf sl).size):=by omega
      have HB:=Ad (show Below w.heap.size w (wr.alloc (.cells #[.int .u8 48] 5)) from ab hbel _);have hS2:=HS.out;rw[hm0,Int.add_zero] at hS2;have HS2:=Ad hS2;clear hs hS2 hm;go_wp2_with fail;go_roundg(gk/10);case measure=>omega
      case rel=>exact⟨gk/10,kc/10,byteOf 48::sl,by rw[fH];rfl,rfl,hx10,hx11,hx12,rfl,by omega,HS2.out,HB.out⟩
end
def i6:aa:=⟨1,0,0,.empty,[]⟩
def jm(s:ByteArray):aa:=⟨7,0,0,s,[]⟩
def bZ(n x:Int):aa:=if x=0 then⟨3,n,0,.empty,[]⟩ else⟨6,n,x,.empty,[]⟩
def aD(n x:Int):aa×Int:=match eM n x with|none=>(i6,3)|some (m,e)=>(⟨4,m,e,.empty,[]⟩,if aI m e=(n,x) then 1 else 2)
def nh(b:Nat):UInt8:=if b<10 then UInt8.ofNat (48+b) else UInt8.ofNat (87+b)
def oh(l:List UInt8):List UInt8:=l.flatMap fun b=>[nh (b.toNat/16),nh (b.toNat%16)]
def ng(s:ByteArray):ByteArray:=strOf (oh s.data.toList)
def aV(way:Int):Bool:=decide (way=1∨way=4)
def cB(way:Int)(v:aa):aa×Int:=if v.kind=3∧way=4 then aD v.n v.x else if v.kind=6∧(way=2∨way=3∨way=4) then aD v.n v.x else if v.kind=4∧way=1 then(bZ (aI v.n v.x).1 (aI v.n v.x).2,1) else if v.kind=5∧aV way=true then(i6,4) else if v.kind=8∧aV way=true then(jm (ng v.s),5) else(v,0)
def fQ(v:aa):aa:=if v.kind=7 then v else jm (eK v.n)
def gM(v:aa):List UInt8:=if v.kind=7 then UInt8.ofNat (96+v.s.size)::v.s.data.toList else[UInt8.ofNat v.n.toNat]
def eJ(a b:aa):Bool:=eC (gM a) (gM b)
structure ah where
  at_ : Nat
  name : aa
  nl : List ag
  val : aa
  vl : List ag
def aO:List (aa×List ag)→Nat→List ah|a::b::l,i=>⟨i,a.1,a.2,b.1,b.2⟩::aO l (i+1)|_,_=>[]
def cH(c:ah)(l:List ah):Bool:=l.any fun d=>decide (d.name=c.name)
def ar:List ah→List ah|[]=>[]|c::l=>if cH c l then ar l else c::ar l
def aU(p:List GStep):List ah→List ag|[]=>[]|c::l=>(if cH c l then[⟨8,p++[⟨c.at_,true⟩]⟩] else c.nl++c.vl)++aU p l
def aY(a b:ah):Bool:=eJ a.name b.name
def aS(way:Int)(l:List ah):List ah:=if way=2 then ao aY [] l else l
def eB(way:Int)(cs:List ah)(p:List GStep):aa×List ag:=(⟨10,0,0,.empty,(aS way (ar cs)).flatMap fun c=>[c.name,c.val]⟩,aU p cs++if(aS way (ar cs)).map ah.at_=(ar cs).map ah.at_ then[] else[⟨9,p⟩])
def gN(k:Int)(i:Nat):GStep:=if k=10 then⟨((i/2:Nat):Int),decide (i%2=0)⟩ else⟨i,false⟩
mutual
def projP (way : Int) : aa → List GStep → aa × List ag
  | ⟨k, n, x, s, l⟩, p =>
    if k = 10 then eB way (aO (projL way 10 l 0 p) 0) p
    else if k = 9 then (⟨9, 0, 0, .empty, (projL way 9 l 0 p).map (·.1)⟩, (projL way 9 l 0 p).flatMap (·.2))
    else if k = 11 then (if way = 2 then (⟨11, n, 0, .empty, (projL way 11 l 0 p).map (·.1)⟩, (projL way 11 l 0 p).flatMap (·.2))
      else (((projL way 11 l 0 p).head?.map (·.1)).getD i6, (projL way 11 l 0 p).flatMap (·.2) ++ [⟨6, p⟩]))
    else ((cB way ⟨k, n, x, s, l⟩).1, if (cB way ⟨k, n, x, s, l⟩).2 = 0 then [] else [⟨(cB way ⟨k, n, x, s, l⟩).2, p⟩])
def projL (way k : Int) : List aa → Nat → List GStep → List (aa × List ag)
  | [], _, _ => []
  | a :: l, i, p => (if k = 10 ∧ i % 2 = 0 ∧ aV way = true then (fQ a, if a.kind = 7 then [] else [⟨7, p ++ [gN k i]⟩]) else projP way a (p ++ [gN k i])) :: projL way k l (i + 1) p
end
def cU(way k:Int)(a:aa)(i:Nat)(p:List GStep):aa×List ag:=if k=10∧i%2=0∧aV way=true then(fQ a,if a.kind=7 then[] else[⟨7,p++[gN k i]⟩]) else projP way a (p++[gN k i])
theorem cE(way k:Int)(a:aa)(l:List aa)(i:Nat)(p:List GStep):projL way k (a::l) i p=cU way k a i p::projL way k l (i+1) p:=by
 rw[projL,cU]
theorem cw(way k:Int)(p:List GStep): ∀(l:List aa)(i:Nat),(projL way k l i p).length=l.length|[],i=>by rw[projL];rfl|a::l,i=>by rw[cE,List.length_cons,cw way k p l,List.length_cons]
theorem dw(way k:Int)(p:List GStep): ∀(l:List aa)(i j:Nat)(h:j<l.length),(projL way k l i p)[j]'(by rw[cw];exact h)=cU way k l[j] (i+j) p|a::l,i,0,h=>by simp only[cE,List.getElem_cons_zero,Nat.add_zero]|a::l,i,j+1,h=>by simp only[cE,List.getElem_cons_succ];rw[dw way k p l (i+1) j (by simpa using h)];rw[show i+1+j=i+(j+1) by omega]
theorem dK{way:Int}{v:aa}(h:v.kind=10)(p:List GStep):projP way v p=eB way (aO (projL way 10 v.l 0 p) 0) p:=by
 cases v;subst h;rw[projP];simp
theorem fc{way:Int}{v:aa}(h:v.kind=9)(p:List GStep):projP way v p=(⟨9,0,0,.empty,(projL way 9 v.l 0 p).map (·.1)⟩,(projL way 9 v.l 0 p).flatMap (·.2)):=by
 cases v;subst h;rw[projP];simp
theorem fO{way:Int}{v:aa}(h:v.kind=11)(a:aa)(hl:v.l=[a])(p:List GStep):projP way v p=(if way=2 then(⟨11,v.n,0,.empty,[(projP way a (p++[⟨0,false⟩])).1]⟩,(projP way a (p++[⟨0,false⟩])).2) else((projP way a (p++[⟨0,false⟩])).1,(projP way a (p++[⟨0,false⟩])).2++[⟨6,p⟩])):=by
 obtain⟨k,n,x,s,l⟩:=v;subst h hl;rw[projP];simp[projL,gN]
theorem fa{way:Int}{v:aa}(h9:v.kind≠9)(h10:v.kind≠10)(h11:v.kind≠11)(p:List GStep):projP way v p=((cB way v).1,if(cB way v).2=0 then[] else[⟨(cB way v).2,p⟩]):=by
 cases v;rw[projP,if_neg h10,if_neg h9,if_neg h11]
def aJ(way:Int)(v:aa):aa×List ag:=if valOkP v=true∧1≤way∧way≤4 then((projP way v []).1,bo (projP way v []).2) else(⟨0,0,0,.empty,[]⟩,[])

def bM(u:aa):Prop:=u.x=0∧u.l=[]∧((u.kind=3∧0≤u.n∧u.n≤3∧u.s=.empty)∨(u.kind=7∧u.n=0∧u.s.size≤8∧b7 u.s=true))
def gi(v:aa):Prop:= ∀u,u∈preG v→u.kind=10→u.l.length≤6∧ ∀i(h:i<u.l.length),i%2=0→bM u.l[i]
def gL(l:List aa):Prop:= ∀u,u∈preL l→u.kind=10→u.l.length≤6∧ ∀i(h:i<u.l.length),i%2=0→bM u.l[i]
theorem gi.of{v:aa}(h:v.kind=10→v.l.length≤6∧ ∀i(h:i<v.l.length),i%2=0→bM v.l[i])(hl:gL v.l):gi v:=by
 intro u hu;rw[qG] at hu;rcases List.mem_cons.1 hu with rfl|hu;·exact h
 ·exact hl u hu
theorem gi.own{v:aa}(h:gi v)(hk:v.kind=10):v.l.length≤6∧ ∀i(h:i<v.l.length),i%2=0→bM v.l[i]:=h v (by rw[qG];simp) hk
theorem gi.sub{v:aa}(h:gi v):gL v.l:=fun u hu=>h u (by rw[qG];simp[hu])
theorem ri{l:List aa}{u:aa}:u∈preL l↔ ∃a∈l,u∈preG a:=by
 induction l with|nil=>simp[preL]|cons b l ih=>rw[preL,List.mem_append,ih];simp
theorem gL.at{l:List aa}(h:gL l){a:aa}(ha:a∈l):gi a:=fun u hu=>h u (ri.2 ⟨a,ha,hu⟩)
theorem gL.all{l:List aa}(h: ∀a∈l,gi a):gL l:=fun u hu=>let⟨a,ha,hu'⟩:=ri.1 hu;h a ha u hu'
theorem bM.yY{u:aa}(h:bM u):gi u:=by
 refine gi.of (fun hk=> ?_) (by rw[h.2.1];intro u hu;simp[preL] at hu);rcases h.2.2 with h|h;·omega
 ·omega

mutual
def potG : aa → Nat
  | ⟨k, _, _, s, l⟩ => (if k = 8 then 2 * s.size else if k = 3 ∨ k = 4 ∨ k = 6 then 24 else s.size) + potL l
def potL : List aa → Nat
  | [] => 0
  | a :: l => 1 + potG a + potL l
end
theorem aW(v:aa):potG v=(if v.kind=8 then 2*v.s.size else if v.kind=3∨v.kind=4∨v.kind=6 then 24 else v.s.size)+potL v.l:=by
 cases v;rw[potG]
theorem uO(l:List aa):potL l=l.length+(l.map potG).sum:=by
 induction l with|nil=>simp[potL]|cons a l ih=>simp only[potL,List.length_cons,List.map_cons,List.sum_cons,ih];omega
theorem fh{l:List aa}{a:aa}(h:a∈l):1+potG a≤potL l:=by
 induction l with|nil=>cases h|cons b l ih=>rw[potL];rcases List.mem_cons.1 h with rfl|h;(·omega);·have:=ih h;omega
theorem dA(way:Int)(l:List ah):(aS way l).Perm l:=by
 unfold aS;split;·have:=bF aY l [];simpa using this
 ·exact .refl _
def al(cs:List ah):List aa:=cs.flatMap fun c=>[c.name,c.val]
theorem bf(c:ah)(cs:List ah):al (c::cs)=c.name::c.val::al cs:=by
 simp[al]
theorem dp: ∀cs,(al cs).length=2*cs.length|[]=>rfl|c::cs=>by rw[bf];simp only[List.length_cons,dp cs];omega
theorem oM: ∀(r:List (aa×List ag))(i:Nat)(c:ah),c∈aO r i→ ∃j,∃h:2*j+1<r.length,c=⟨i+j,r[2*j].1,r[2*j].2,r[2*j+1].1,r[2*j+1].2⟩|[],i,c,h=>by simp[aO] at h|[a],i,c,h=>by simp[aO] at h|a::b::l,i,c,h=>by rw[aO] at h;rcases List.mem_cons.1 h with rfl|h;(·exact⟨0,by simp,by simp⟩);·obtain⟨j,hj,rfl⟩:=oM l (i+1) c h;refine⟨j+1,by simp;omega,?_⟩;simp only[show 2*(j+1)=2*j+1+1 by omega,List.getElem_cons_succ];congr 1;omega
theorem gJ: ∀(l:List ah)(c:ah),c∈ar l→c∈l|[],c,h=>h|d::l,c,h=>by rw[ar] at h;split at h;(·exact List.mem_cons_of_mem _ (gJ l c h));·rcases List.mem_cons.1 h with rfl|h;(·simp);·exact List.mem_cons_of_mem _ (gJ l c h)
theorem jz{c:ah}{l:List ah}:cH c l=true↔c.name∈l.map ah.name:=by
 unfold cH;simp only[List.any_eq_true,decide_eq_true_eq,List.mem_map]
theorem mw: ∀(l:List ah),((ar l).map ah.name).Nodup∧ ∀x,x∈(ar l).map ah.name↔x∈l.map ah.name|[]=>⟨by simp[ar],by simp[ar]⟩|c::l=>by obtain⟨h1,h2⟩:=mw l;rw[ar];by_cases h:cH c l=true;(·rw[if_pos h];refine⟨h1,fun x=> ?_⟩;rw[h2,List.map_cons,List.mem_cons];have:=jz.1 h;constructor;(·exact .inr);·rintro(rfl|h3);(·exact this);·exact h3);·rw[if_neg h];refine⟨?_,fun x=> ?_⟩;(·rw[List.map_cons,List.nodup_cons];exact⟨fun h3=>h (jz.2 ((h2 _).1 h3)),h1⟩);·rw[List.map_cons,List.map_cons,List.mem_cons,List.mem_cons,h2]
theorem rj: ∀(l:List ah),(l.map ah.name).Nodup→ar l=l|[],_=>rfl|c::l,h=>by rw[List.map_cons,List.nodup_cons] at h;rw[ar,if_neg (fun h3=>h.1 (jz.1 h3)),rj l h.2]
theorem vV{way:Int}{l:List ah}{c:ah}(h:c∈aS way (ar l)):c∈l:=gJ l c ((dA way (ar l)).mem_iff.1 h)
def Fix(way:Int)(u:aa):Prop:= ∀q,projP way u q=(u,[])
theorem xz{way:Int}{u:aa}(h9:u.kind≠9)(h10:u.kind≠10)(h11:u.kind≠11)(h:cB way u=(u,0)):Fix way u:=by
 intro q;rw[fa h9 h10 h11,h];simp
theorem ob{way:Int}{v:aa}(h:v.kind=1∨v.kind=7∨(v.kind=4∧way≠1)∨(v.kind=3∧way≠4)∨(v.kind=6∧way=1)):cB way v=(v,0):=by
 unfold cB aV;rw[if_neg (by omega),if_neg (by omega),if_neg (by omega),if_neg (by omega),if_neg (by omega)]
theorem flatMap_nil{α β:Type}{f:α→List β}: ∀{l:List α},l.flatMap f=[]→ ∀a∈l,f a=[]|[],_,a,h=>absurd h (by simp)|b::l,e,a,h=>by rw[List.flatMap_cons,List.append_eq_nil_iff] at e;rcases List.mem_cons.1 h with rfl|h;(·exact e.1);·exact flatMap_nil e.2 a h
theorem il(p:List GStep): ∀{l:List ah},aU p l=[]→(l.map ah.name).Nodup∧ ∀c∈l,c.nl=[]∧c.vl=[]|[],_=>⟨by simp,by simp⟩|c::l,h=>by rw[aU,List.append_eq_nil_iff] at h;obtain⟨h1,h2⟩:=il p h.2;by_cases hg:cH c l=true;(·rw[if_pos hg] at h;simp at h);·rw[if_neg hg,List.append_eq_nil_iff] at h;refine⟨?_,fun d hd=> ?_⟩;(·rw[List.map_cons,List.nodup_cons];exact⟨fun h3=>hg (jz.2 h3),h1⟩);·rcases List.mem_cons.1 hd with rfl|hd;(·exact h.1);·exact h2 d hd
theorem dj{v:aa}(h:af v=true)(hk:v.kind=10):v=⟨10,0,0,.empty,v.l⟩∧v.l.length%2=0:=by
 obtain⟨k,n,x,s,l⟩:=v;simp only at hk;subst hk;simp[af] at h;obtain⟨rfl,rfl,rfl,h⟩:=h;exact⟨rfl,by simpa using h⟩
theorem eS{v:aa}(h:af v=true)(hk:v.kind=11): ∃a,v=⟨11,v.n,0,.empty,[a]⟩∧0≤v.n∧v.n≤1000000000000000:=by
 obtain⟨k,n,x,s,l⟩:=v;simp only at hk;subst hk;simp[af] at h;obtain⟨⟨h1,h2⟩,rfl,rfl,h⟩:=h;obtain⟨a,rfl⟩:=List.length_eq_one_iff.1 h;exact⟨a,rfl,h1,h2⟩
theorem l9: ∀(r:List (aa×List ag))(i:Nat),(aO r i).map ah.at_=(List.range' i (r.length/2))|[],i=>by simp[aO]|[a],i=>by simp[aO]|a::b::l,i=>by rw[aO,List.map_cons,l9 l (i+1)];(have:(a::b::l).length/2=l.length/2+1:=by simp only[List.length_cons];omega);rw[this,List.range'_succ]
theorem wW{a b:List ah}(hp:a.Perm b)(hn:(b.map ah.at_).Nodup)(h:a.map ah.at_=b.map ah.at_):a=b:=by
 have hlen:a.length=b.length:=hp.length_eq;apply List.ext_getElem hlen;intro i h1 h2;have e:(a[i]).at_=(b[i]).at_:=by have:=congrArg (fun l=>l[i]?) h;simp only[List.getElem?_map,List.getElem?_eq_getElem h1,List.getElem?_eq_getElem h2,Option.map_some,Option.some.injEq] at this;exact this
 have hm:a[i]∈b:=hp.mem_iff.1 (List.getElem_mem h1);obtain⟨j,hj,ej⟩:=List.getElem_of_mem hm;have:(b.map ah.at_)[j]'(by simpa using hj)=(b.map ah.at_)[i]'(by simpa using h2):=by simp[ej,e]
 have:=(List.getElem_inj hn).1 this;subst this;exact ej.symm
theorem oH(l:List UInt8):(strOf l).data.toList=l:=by
 simp[strOf]
theorem lD(l:List UInt8):(strOf l).size=l.length:=by
 simp[strOf,ByteArray.size]
theorem sC{l:List UInt8}(h: ∀b∈l,b.toNat<128):b7 (strOf l)=true:=by
 unfold b7;rw[oH,Lib.validD_ascii l.length l (by rw[List.take_length];exact h),List.drop_length];rfl
theorem uw{b:Nat}(h:b<16):(nh b).toNat<128:=by
 unfold nh;split;·rw[UInt8.toNat_ofNat_of_lt' (by show _<256;omega)];omega
 ·rw[UInt8.toNat_ofNat_of_lt' (by show _<256;omega)];omega
theorem gS: ∀l:List UInt8,(oh l).length=2*l.length|[]=>rfl|b::l=>by have:=gS l;unfold oh at this ⊢;rw[List.flatMap_cons,List.length_append,this];simp;omega
theorem xY(s:ByteArray):b7 (ng s)=true:=by
 refine sC fun b hb=> ?_;unfold oh at hb;obtain⟨c,hc,hb⟩:=List.mem_flatMap.1 hb;have:=c.toNat_lt;rcases List.mem_cons.1 hb with rfl|hb;·exact uw (by omega)
 ·rcases List.mem_cons.1 hb with rfl|hb;·exact uw (by omega)
  ·cases hb
theorem vU(s:ByteArray):(ng s).size=2*s.size:=by
 unfold ng;rw[lD,gS,Array.length_toList];rfl
theorem kl{n:Int}(h0:0≤n)(h1:n<10):eK n=strOf [UInt8.ofNat (48+n.toNat)]:=by
 unfold eK Lib.itoa;rw[if_neg (by omega),Lib.decDigits_one (by omega)]
theorem kO{u:aa}(h:bM u):bM (fQ u):=by
 obtain⟨hx,hl,h⟩:=h;unfold fQ;rcases h with⟨hk,h0,h1,hs⟩|⟨hk,h⟩
 ·rw[if_neg (by omega),kl h0 (by omega)];refine⟨rfl,rfl,.inr ⟨rfl,rfl,?_,sC fun b hb=> ?_⟩⟩;·unfold jm;rw[lD];simp
  ·rw[List.mem_singleton.1 hb,UInt8.toNat_ofNat_of_lt' (by show _<256;omega)];omega
 ·rw[if_pos hk];exact⟨hx,hl,.inr ⟨hk,h⟩⟩
theorem bM.sI{u:aa}(h:bM u):valOkP u=true:=by
 obtain⟨hx,hl,h⟩:=h;obtain⟨k,n,x,s,l⟩:=u;simp only at hx hl h;subst hx hl;rw[bU];simp only[valsOkP,Bool.and_true];rcases h with⟨rfl,h0,h1,rfl⟩|⟨rfl,rfl,hs,ht⟩;·unfold af;simp;omega
 ·unfold af;simp[ht]
theorem bM.same{u:aa}(h:bM u){way:Int}(hw:aV way≠true)(p:List GStep):projP way u p=(u,[]):=by
 have hw4:way≠4:=fun e=>hw (by rw[e];rfl);have h7:=h.2.2;refine xz (by omega) (by omega) (by omega) (ob (by omega)) p

theorem ti{m e:Int}{r:Int×Int}(h:bB m e=some r):bg r.1 r.2=true:=by
 unfold bB at h;split at h;·injection h with h;subst h;rfl
 ·split at h;·rename_i h2;injection h with h;subst h;exact h2
  ·cases h
theorem nL{n x m e:Int}(h:eM n x=some (m,e)):bg m e=true:=by
 unfold eM at h;split at h;·exact ti (r:=(m,e)) h
 ·cases h
theorem mM{m e:Int}(h:bg m e=true):(m=0∧e=0)∨(m≠0∧ -65535≤m∧m≤65535∧m.tmod 2≠0∧ -16≤e∧e≤45∧(e≤30∨(-65535≤m*2^(e-30).toNat∧m*2^(e-30).toNat≤65535))):=by
 unfold bg at h;by_cases hm:m=0;·rw[if_pos hm] at h;exact .inl ⟨hm,by simpa using h⟩
 ·rw[if_neg hm] at h;simp only[Bool.and_eq_true,Bool.or_eq_true,decide_eq_true_eq] at h;exact .inr ⟨hm,h.1.1.1.1,h.1.1.1.2,h.1.1.2,h.1.2.1,h.1.2.2,h.2⟩
theorem xW{k:Nat}(h:k≤30): ∃q:Int,(2:Int)^k=q∧1≤q∧q≤1073741824:=by
 refine⟨_,rfl,?_,?_⟩;·have:=Int.pow_pos (n:=2) (m:=k) (by omega);omega
 ·have:=Nat.pow_le_pow_right (n:=2) (by omega) h;have e:((2^k:Nat):Int)=(2:Int)^k:=by simp
  rw[←e];have:(2:Nat)^30=1073741824:=by decide
  omega
theorem mf{m q B:Int}(h0: -65535≤m)(h1:m≤65535)(hq0:1≤q)(hq1:q≤B): -(65535*B)≤m*q∧m*q≤65535*B:=by
 have h2:m*q≤65535*q:=Int.mul_le_mul_of_nonneg_right h1 (by omega);have h3: -65535*q≤m*q:=Int.mul_le_mul_of_nonneg_right h0 (by omega);constructor;·rw[Int.neg_mul] at h3;omega
 ·omega
theorem vP{m e:Int}(h:bg m e=true):valOkP (bZ (aI m e).1 (aI m e).2)=true:=by
 unfold aI bZ;rcases mM h with⟨rfl,rfl⟩|⟨hm,h0,h1,h2,h3,h4,h5⟩;·rfl
 ·by_cases he:0≤e
  ·rw[if_pos he];simp only[if_true];have hb: -1000000000000000≤m*2^e.toNat∧m*2^e.toNat≤1000000000000000:=by by_cases h30:e≤30;(·obtain⟨q,hq,hq0,hq1⟩:=xW (k:=e.toNat) (by omega);rw[hq];have:=mf h0 h1 hq0 hq1;omega);·rcases h5 with h5|h5;(·omega);·(have e1:e.toNat=(e-30).toNat+30:=by omega);rw[e1,Int.pow_add,←Int.mul_assoc];have:=mf (q:=2^30) (B:=1073741824) h5.1 h5.2 (by decide) (by decide);omega
   rw[bU];simp[af,valsOkP,hb.1,hb.2]
  ·rw[if_neg he];have hx:e≠0:=by omega
   simp only[if_neg hx];obtain⟨k,hk,hk1,hk2⟩: ∃k:Nat,(-e).toNat=k∧1≤k∧k≤16:=⟨_,rfl,by omega,by omega⟩;rw[hk];have hodd: ¬(2:Int) ∣ m:=fun hd=>h2 (Int.tmod_eq_zero_of_dvd hd);have h5b: ∃q:Int,(5:Int)^k=q∧1≤q∧q≤152587890625∧q%2=1:=by(have hk':k=1∨k=2∨k=3∨k=4∨k=5∨k=6∨k=7∨k=8∨k=9∨k=10∨k=11∨k=12∨k=13∨k=14∨k=15∨k=16:=by omega);rcases hk' with rfl|rfl|rfl|rfl|rfl|rfl|rfl|rfl|rfl|rfl|rfl|rfl|rfl|rfl|rfl|rfl<;>exact⟨_,rfl,by decide,by decide,by decide⟩
   obtain⟨q,hq,hq0,hq1,hq2⟩:=h5b;rw[hq];have hb:=mf h0 h1 hq0 hq1;have hd: ¬(10:Int) ∣ m*q:=by rintro⟨t,ht⟩;apply hodd;refine⟨m*((q+1)/2)-5*t,?_⟩;(have e1:q+1=2*((q+1)/2):=by omega);rw[Int.mul_sub,←Int.mul_assoc 2 m,Int.mul_comm 2 m,Int.mul_assoc m 2,←e1,Int.mul_add,ht];omega
   have hdig:eT (m*q)≤17:=(jD _).2 ⟨by omega,by omega⟩;have ht:(m*q).tmod 10≠0:=fun e0=>hd (Int.dvd_of_tmod_eq_zero e0);rw[bU];have hdec:aZ (m*q) e=true:=by unfold aZ;simp[hx,hdig,ht];omega
   simp[af,valsOkP,hdec];omega
mutual
def depG : aa → Nat
  | ⟨_, _, _, _, l⟩ => depL l
def depL : List aa → Nat
  | [] => 0
  | a :: l => max (depG a + 1) (depL l)
end
theorem eE(v:aa):depG v=depL v.l:=by
 cases v;rw[depG]
theorem lj{l:List aa}{d:Nat}:depL l≤d↔ ∀a∈l,depG a+1≤d:=by
 induction l with|nil=>simp[depL]|cons a l ih=>rw[depL,Nat.max_le,ih];simp
theorem dr{v a:aa}(h:a∈v.l):depG a+1≤depG v:=by
 have:=lj.1 (Nat.le_refl (depL v.l)) a h;rw[eE v];exact this

theorem pN(cs:List ah):potL (al cs)=(cs.map fun c=>2+potG c.name+potG c.val).sum:=by
 induction cs with|nil=>rfl|cons c cs ih=>rw[bf,potL,potL,ih,List.map_cons,List.sum_cons];omega
theorem sc{α:Type}(f:α→Nat){a b:List α}(h:a.Perm b):(a.map f).sum=(b.map f).sum:=by
 induction h with|nil=>rfl|cons x _ ih=>simp only[List.map_cons,List.sum_cons,ih]|swap x y l=>simp only[List.map_cons,List.sum_cons];omega|trans _ _ ih1 ih2=>rw[ih1,ih2]
theorem pX(f:ah→Nat): ∀l,((ar l).map f).sum≤(l.map f).sum|[]=>by simp[ar]|c::l=>by have:=pX f l;rw[ar];split;(·rw[List.map_cons,List.sum_cons];omega);·rw[List.map_cons,List.sum_cons,List.map_cons,List.sum_cons];omega
theorem fN: ∀l,(ar l).length≤l.length|[]=>by simp[ar]|c::l=>by have:=fN l;rw[ar];split;(·rw[List.length_cons];omega);·rw[List.length_cons,List.length_cons];omega
theorem jY: ∀(r:List (aa×List ag))(i:Nat),(aO r i).length=r.length/2|[],i=>by simp[aO]|[a],i=>by simp[aO]|a::b::l,i=>by rw[aO,List.length_cons,jY l (i+1)];simp only[List.length_cons];omega
theorem nG: ∀(r:List (aa×List ag))(i:Nat),potL (al (aO r i))≤potL (r.map (·.1))|[],i=>by simp[aO,al,potL]|[a],i=>by simp[aO,al,potL]|a::b::l,i=>by have:=nG l (i+1);rw[aO,bf,potL,potL,List.map_cons,List.map_cons,potL,potL];simp only;omega
theorem lZ{cs:List ah}{u:aa}:u∈al cs↔ ∃c∈cs,u=c.name∨u=c.val:=by
 unfold al;rw[List.mem_flatMap];simp
theorem sJ: ∀(cs:List ah)(i:Nat)(h:i<(al cs).length),i%2=0→ ∃c∈cs,(al cs)[i]=c.name|[],i,h,_=>by simp[al] at h|c::cs,0,h,_=>⟨c,by simp,by simp[bf]⟩|c::cs,1,h,he=>by omega|c::cs,i+2,h,he=>by obtain⟨d,hd,e⟩:=sJ cs i (by rw[bf] at h;simpa using h) (by omega);exact⟨d,by simp[hd],by simp only[bf,List.getElem_cons_succ];exact e⟩

theorem ud{way:Int}{v:aa}(hok:valOkP v=true)(h9:v.kind≠9)(h10:v.kind≠10)(h11:v.kind≠11):valOkP (cB way v).1=true∧(cB way v).1.l=[]∧potG (cB way v).1≤potG v∧(cB way v).1.kind≠10:=by
 have ho:=(aL hok).1;have hl:v.l=[]:=by unfold af at ho;(repeat' (split at ho));(all_goals first|(simp at ho;done)|(simp at ho;first|exact ho.2.2.2|exact ho.2.2|exact ho.2.2.2.2|exact ho.2.2.2.2.2|exact ho.2|skip));all_goals first|omega|(exact ho.2.2.2.1)|skip
 have near:v.kind=3∨v.kind=6→valOkP (aD v.n v.x).1=true∧(aD v.n v.x).1.l=[]∧potG (aD v.n v.x).1≤potG v∧(aD v.n v.x).1.kind≠10:=by intro hk;(have hp:24≤potG v:=by rw[aW,if_neg (by omega),if_pos (by omega)];omega);unfold aD;split;(·exact⟨rfl,rfl,by rw[aW];simp[i6,potL],by simp[i6]⟩);·rename_i m e hne;have hf:=nL hne;refine⟨?_,rfl,by rw[aW];simp[potL];omega,by simp⟩;rw[bU];simp[af,valsOkP,hf]
 unfold cB;split;·rename_i h;exact near (.inl h.1)
 ·split;·rename_i h;exact near (.inr h.1)
  ·split
   ·rename_i h;have hf:bg v.n v.x=true:=by unfold af at ho;simp[h.1] at ho;exact ho.1
    have hp:24≤potG v:=by rw[aW,if_neg (by omega),if_pos (by omega)];omega
    refine⟨vP hf,?_,?_,?_⟩;·unfold bZ;split<;>rfl
    ·rw[aW];unfold bZ;split<;>simp[potL]<;>omega
    ·unfold bZ;split<;>simp
   ·split;·exact⟨rfl,rfl,by rw[aW];simp[i6,potL],by simp[i6]⟩
    ·split
     ·rename_i h;refine⟨?_,rfl,?_,by simp[jm]⟩;·rw[bU];simp[jm,af,valsOkP,xY]
      ·rw[aW,aW v,if_pos h.1];simp[jm,potL,vU]
     ·exact⟨hok,hl,Nat.le_refl _,h10⟩
theorem nO{v:aa}(hok:valOkP v=true)(h9:v.kind≠9)(h10:v.kind≠10)(h11:v.kind≠11):v.l=[]:=by
 have ho:=(aL hok).1;unfold af at ho;repeat' (split at ho)
 all_goals first|(simp at ho;done)|(simp at ho;first|exact ho.2.2.2|exact ho.2.2|exact ho.2.2.2.2|exact ho.2.2.2.2.2|exact ho.2|skip)
 all_goals first|omega|(exact ho.2.2.2.1)|skip
def oi(v u:aa):Prop:=valOkP u=true∧gi u∧potG u≤potG v∧depG u≤depG v
theorem tz{way k:Int}{a:aa}{i:Nat}{p:List GStep}(hok:valOkP a=true)(hn:gi a)(hm:k=10→i%2=0→bM a)(IH: ∀p,oi a (projP way a p).1):oi a (cU way k a i p).1∧(k=10→i%2=0→bM (cU way k a i p).1):=by
 unfold cU;by_cases hc:k=10∧i%2=0∧aV way=true
 ·rw[if_pos hc];have h0:=hm hc.1 hc.2.1;have h1:=kO h0;refine⟨⟨h1.sI,h1.yY,?_,?_⟩,fun _ _=>h1⟩
  ·have h2:=h1.2.1;show potG (fQ a)≤potG a;unfold fQ at h2 h1 ⊢;by_cases h7:a.kind=7;·simp only[if_pos h7];omega
   ·rw[if_neg h7] at h2 ⊢;have h3:=h0.2.2;rcases h3 with h3|h3;·rw[aW a,if_neg (by omega),if_pos (by omega),aW];simp only[kl h3.2.1 (show a.n<10 by omega)];simp[jm,potL,lD];omega
    ·omega
  ·rw[eE,h1.2.1];simp[depL]
 ·rw[if_neg hc];refine⟨IH _,fun hk hi=> ?_⟩;have h0:=hm hk hi;rw[h0.same (fun e=>hc ⟨hk,hi,e⟩)];exact h0
theorem sU: ∀(l m:List aa),l.length=m.length→(∀i(h:i<l.length)(h':i<m.length),potG l[i]≤potG m[i])→potL l≤potL m|[],[],_,_=>Nat.le_refl _|[],_::_,e,_=>by simp at e|_::_,[],e,_=>by simp at e|a::l,b::m,e,h=>by have h0:=h 0 (by simp) (by simp);simp only[List.getElem_cons_zero] at h0;(have:=sU l m (by simpa using e) fun i h1 h2=>by have:=h (i+1) (by simpa using h1) (by simpa using h2);simpa using this);rw[potL,potL];omega
theorem dD(way:Int)(v:aa):valOkP v=true→gi v→ ∀p,oi v (projP way v p).1:=by
 refine aa.ind (p:=fun v=>valOkP v=true→gi v→ ∀p,oi v (projP way v p).1) (fun v IH hok hn p=> ?_) v;obtain⟨ho,hl⟩:=aL hok;have IH': ∀i(hi:i<v.l.length) p,oi v.l[i] (projP way v.l[i] p).1:=fun i hi=>IH i hi (bE hl hi) (hn.sub.at (List.getElem_mem hi));have hE: ∀(k:Int) i(hi:i<v.l.length) p,(k=10→v.kind=10)→oi v.l[i] (cU way k v.l[i] i p).1∧(k=10→i%2=0→bM (cU way k v.l[i] i p).1):=fun k i hi p hk=>tz (bE hl hi) (hn.sub.at (List.getElem_mem hi)) (fun e e2=>(hn.own (hk e)).2 i hi e2) (IH' i hi);have hpl: ∀(k:Int) p,(k=10→v.kind=10)→potL ((projL way k v.l 0 p).map (·.1))≤potL v.l:=fun k p hk=>by refine sU _ _ (by rw[List.length_map,cw]) fun i h1 h2=> ?_;rw[List.getElem_map,dw way k p v.l 0 i h2,Nat.zero_add];exact(hE k i h2 p hk).1.2.2.1
 by_cases h9:v.kind=9
 ·rw[fc h9];have hmem: ∀a∈(projL way 9 v.l 0 p).map (·.1),∃i,∃h:i<v.l.length,oi v.l[i] a:=by intro a ha;obtain⟨i,hi,e⟩:=List.getElem_of_mem ha;(have hi':i<v.l.length:=by rwa[List.length_map,cw] at hi);rw[List.getElem_map,dw way 9 p v.l 0 i hi',Nat.zero_add] at e;exact⟨i,hi',e▸(hE 9 i hi' p (by omega)).1⟩
  refine⟨?_,gi.of (by simp) (gL.all fun a ha=> ?_),?_,?_⟩;·rw[bU];simp only[Bool.and_eq_true];refine⟨by simp[af],?_⟩;rw[dE,List.all_eq_true];intro a ha;obtain⟨i,hi,h⟩:=hmem a ha;exact h.1
  ·obtain⟨i,hi,h⟩:=hmem a ha;exact h.2.1
  ·rw[aW,aW v];have:=hpl 9 p (by omega);simp only[h9];simp;omega
  ·rw[eE];simp only;rw[lj];intro a ha;obtain⟨i,hi,h⟩:=hmem a ha;have h1:=dr (List.getElem_mem hi);have:=h.2.2.2;omega
 ·by_cases h10:v.kind=10
  ·rw[dK h10];unfold eB;show oi v ⟨10,0,0,.empty,al (aS way (ar (aO (projL way 10 v.l 0 p) 0)))⟩;have hpair: ∀c∈aS way (ar (aO (projL way 10 v.l 0 p) 0)),∃i,∃h:i<v.l.length,∃j,∃h':j<v.l.length,oi v.l[i] c.name∧bM c.name∧oi v.l[j] c.val:=by intro c hc;obtain⟨j,hj,rfl⟩:=oM _ _ _ (vV hc);(have hj':2*j+1<v.l.length:=by rwa[cw] at hj);have e0:=dw way 10 p v.l 0 (2*j) (by omega);have e1:=dw way 10 p v.l 0 (2*j+1) hj';rw[Nat.zero_add] at e0 e1;have k0:=hE 10 (2*j) (by omega) p (fun _=>h10);have k1:=hE 10 (2*j+1) hj' p (fun _=>h10);exact⟨2*j,by omega,2*j+1,hj',by simp only;rw[e0];exact k0.1,by simp only;rw[e0];exact k0.2 rfl (by omega),by simp only;rw[e1];exact k1.1⟩
   refine⟨?_,gi.of (fun _=>⟨?_,fun i hi he=> ?_⟩) (gL.all fun a ha=> ?_),?_,?_⟩
   ·rw[bU];simp only[Bool.and_eq_true];refine⟨by simp[af,dp],?_⟩;rw[dE,List.all_eq_true];intro a ha;obtain⟨c,hc,e⟩:=lZ.1 ha;obtain⟨i,hi,j,hj,h1,h2,h3⟩:=hpair c hc;rcases e with rfl|rfl;·exact h1.1
    ·exact h3.1
   ·have h1:=(hn.own h10).1;have h2:=fN (aO (projL way 10 v.l 0 p) 0);have h3:=(dA way (ar (aO (projL way 10 v.l 0 p) 0))).length_eq;rw[jY,cw] at h2;show(al _).length≤6;rw[dp];omega
   ·obtain⟨c,hc,e⟩:=sJ _ i hi he;obtain⟨_,_,_,_,_,h2,_⟩:=hpair c hc;show bM ((al _)[i]);rw[e];exact h2
   ·obtain⟨c,hc,e⟩:=lZ.1 ha;obtain⟨i,hi,j,hj,h1,h2,h3⟩:=hpair c hc;rcases e with rfl|rfl;·exact h1.2.1
    ·exact h3.2.1
   ·rw[aW,aW v];simp only[h10];have h1:=hpl 10 p (fun _=>h10);have h2:=nG (projL way 10 v.l 0 p) 0;have h3:=pX (fun c=>2+potG c.name+potG c.val) (aO (projL way 10 v.l 0 p) 0);have h4:=sc (fun c=>2+potG c.name+potG c.val) (dA way (ar (aO (projL way 10 v.l 0 p) 0)));rw[pN] at h2;simp only[show((10:Int)=8)=False by simp,show((10:Int)=3∨(10:Int)=4∨(10:Int)=6)=False by simp,if_false];rw[pN,h4];have:(ByteArray.empty).size=0:=rfl;omega
   ·rw[eE];simp only;rw[lj];intro a ha;obtain⟨c,hc,e⟩:=lZ.1 ha;obtain⟨i,hi,j,hj,h1,h2,h3⟩:=hpair c hc;have d1:=dr (List.getElem_mem hi);have d2:=dr (List.getElem_mem hj);rcases e with rfl|rfl;·have:=h1.2.2.2;omega
    ·have:=h3.2.2.2;omega
  ·by_cases h11:v.kind=11
   ·obtain⟨a,hv,hv0,hv1⟩:=eS ho h11;have ha:v.l=[a]:=by rw[hv]
    have hlt:0<v.l.length:=by rw[ha];simp
    have ha0:v.l[0]=a:=by simp[ha]
    have hI:=IH' 0 hlt (p++[⟨0,false⟩]);rw[ha0] at hI;rw[fO h11 a ha];generalize projP way a (p++[⟨0,false⟩])=r at hI ⊢;have hda:=dr (v:=v) (a:=a) (by rw[ha];simp);split
    ·refine⟨?_,gi.of (by simp) (gL.all fun b hb=> ?_),?_,?_⟩;·rw[bU];simp[af,valsOkP,hI.1,hv0,hv1]
     ·rw[List.mem_singleton.1 hb];exact hI.2.1
     ·rw[aW,aW v,ha];have:=hI.2.2.1;have:(ByteArray.empty).size=0:=rfl;simp only[h11,potL];simp;omega
     ·rw[eE];simp only;rw[lj];intro b hb;rw[List.mem_singleton.1 hb];have:=hI.2.2.2;omega
    ·refine⟨hI.1,hI.2.1,?_,?_⟩;·have:=hI.2.2.1;rw[aW v,ha,potL,potL];simp only;omega
     ·have:=hI.2.2.2;simp only;omega
   ·rw[fa h9 h10 h11];obtain⟨k1,k2,k3,k4⟩:=ud (way:=way) hok h9 h10 h11;refine⟨k1,gi.of (fun e=>absurd e k4) (gL.all fun a ha=> ?_),k3,?_⟩;·simp only at ha;rw[k2] at ha;cases ha
    ·rw[eE];simp only;rw[k2];simp[depL]
theorem bz(v:aa):valOkP v=true→bulkVal v≤potG v:=by
 refine aa.ind (p:=fun v=>valOkP v=true→bulkVal v≤potG v) (fun v IH hok=> ?_) v;obtain⟨ho,hl⟩:=aL hok;rw[au,aW];have h1:v.s.size≤if v.kind=8 then 2*v.s.size else if v.kind=3∨v.kind=4∨v.kind=6 then 24 else v.s.size:=by split;(·omega);·split;(·rename_i h;(have:v.s=.empty:=by unfold af at ho;rcases h with h|h|h<;>simp[h] at ho;(·exact ho.2.2.1);(·exact ho.2.1);·exact ho.2.2.1);rw[this];show 0≤24;omega);·omega
 have h2: ∀l:List aa,(∀i(h:i<l.length),bulkVal l[i]≤potG l[i])→bulkVals l≤potL l:=by intro l;induction l with|nil=>intro _;simp[bulkVals,potL]|cons a l ih=>intro h;have h0:=h 0 (by simp);simp only[List.getElem_cons_zero] at h0;(have:=ih fun i hi=>by have:=h (i+1) (by simpa using hi);simpa using this);rw[bulkVals,potL];omega
 have:=h2 v.l fun i hi=>IH i hi (bE hl hi);omega
end Go.Proofs.YtodpdjehjllhdaaGreatDoor
