/- Part of a proof: contracts and plain laws. -/
import Derived.Test.YtodpdjehjllhdaaGreatDoorZ13
set_option linter.unusedVariables false
set_option maxRecDepth 100000
set_option maxHeartbeats 20000000
namespace Go.Proofs.YtodpdjehjllhdaaGreatDoor
open Go.RowKit
theorem lb(w:World)(e:TypeId)(s:ByteArray):Below w.heap.size w (Lib.bytesWorld w e s):=⟨rfl,rfl,rfl,by rw[Lib.bytesWorld_size];omega,fun b hb=>Lib.bytesWorld_at_old w e s b hb⟩
theorem aH.bytes(w:World): ∀l:List UInt8,aH w l [] (l.map fun b=>Value.int .u8 (b.toNat:Int))|[]=>⟨rfl,rfl⟩|b::l=>⟨[],[],[.int .u8 (b.toNat:Int)],_,rfl,rfl,⟨rfl,rfl⟩,aH.bytes w l⟩
theorem nO(w:World)(e:TypeId)(s:ByteArray)(hs:s.size≤maxLen):SA (Lib.bytesWorld w e s) s.data.toList (some ⟨w.heap.size,0,none⟩) (grownCap w s.size 0 e):=by
 have hl:s.data.toList.length=s.size:=by rw[Array.length_toList];rfl
 by_cases h0:s.data.toList=[];·rw[h0];exact⟨[],⟨by simp,grownCap_le_maxLen w _ 0 e hs,.inl ⟨rfl,rfl,fun h=>by cases h⟩⟩,by simp⟩
 ·refine⟨[w.heap.size],⟨by rw[hl];exact grownCap_ge w _ 0 e,grownCap_le_maxLen w _ 0 e hs,.inr ⟨w.heap.size,0,[],_,rfl,rfl,aH.bytes _ _,?_⟩⟩,?_⟩
  ·intro j v hj;rw[List.getElem?_map] at hj;have hjl:j<s.data.toList.length:=by rcases Nat.lt_or_ge j s.data.toList.length with h|h;(·exact h);·rw[List.getElem?_eq_none h] at hj;cases hj
   rw[List.getElem?_eq_getElem hjl] at hj;injection hj with hj;rw[Nat.zero_add,Lib.bytesWorld_cell w e s j (by omega),←hj,List.getD_eq_getElem?_getD,List.getElem?_eq_getElem hjl];rfl
  ·intro b hb;simp at hb;rw[Lib.bytesWorld_size];omega
theorem fm(s:ByteArray)(w:World)(hs:s.size≤1099511627776):Calls Tryz.prog 144 #[.string s] w (cd w (.bool (bW s))):=by
 have hl:s.data.toList.length=s.size:=by rw[Array.length_toList];rfl
 obtain⟨l,hll⟩: ∃l,l=s.data.toList:=⟨_,rfl⟩;obtain⟨r,hr⟩: ∃r,r=bW s:=⟨_,rfl⟩;rw[←hr];unfold bW at hr;have hcv:=Lib.run_convert_string_bytes (P:=Tryz.prog) w 9 22 5 s Tryz.underlying9 Tryz.underlying22 Tryz.underlying5;have hsa:=nO w 5 s (by unfold maxLen;omega);have hbe:=lb w 5 s;rw[←hll] at hr hl hsa;have hn:l.length≤1099511627776:=by omega
 obtain⟨W,hW⟩: ∃W,W=Lib.bytesWorld w 5 s:=⟨_,rfl⟩;rw[←hW] at hcv hsa hbe;obtain⟨c,hc⟩: ∃c,c=grownCap w s.size 0 5:=⟨_,rfl⟩;rw[←hc] at hcv hsa;rw[←hl] at hcv;have R:=xQ hr;have E:=xQ hsa;have B:=xQ hbe;clear hr hsa hbe hW hc hll hs hl;go_enter Tryz.func144,Tryz.ntmps144;go_wp2_with fail;go_loopg[4] l.length (fun gk i wr=> ∃(k:Nat),k≤l.length∧i=.int .i64 (k:Int)∧gk=l.length-k∧Hid (r=Lib.validD (l.drop k))∧wr=W);case atStart=>exact⟨0,by omega,rfl,by omega,R.out,rfl⟩
 case round=>
  obtain⟨k,hk,rfl,rfl,hT,rfl⟩:=hrel;by_cases hlt:k<l.length
  ·have hpos:0<(l.drop k).length:=by rw[List.length_drop];omega
   obtain⟨v1,v2⟩:=qs hpos;cases hg:fP (l.drop k) with|none=>(have hr0:r=false:=by rw[hT.out];exact v1 hg);subst hr0;have G:=xQ hg;clear hg v1 v2;go_wp2_with fail;refine(gL l k _ c _ hn hlt E.out).mono ?_;rintro e w1 ⟨rfl,rfl⟩;rw[G.out];unfold rC;go_wp2_with fail;go_ret;exact⟨rfl,B.out⟩|some p=>obtain⟨n,d⟩:=p;obtain⟨q1,q2,q3⟩:=v2 n d hg;rw[List.length_drop] at q3;(have HT2:Hid (r=Lib.validD (l.drop (k+d))):=by show _=_;rw[hT.out,q1,List.drop_drop]);have G:=xQ hg;clear hg v1 v2 q1;go_wp2_with fail;refine(gL l k _ c _ hn hlt E.out).mono ?_;rintro e w1 ⟨rfl,rfl⟩;rw[G.out];unfold rC;go_wp2_with fail;go_roundg(l.length-(k+d));(case measure=>omega);case rel=>exact⟨k+d,by omega,rfl,rfl,HT2.out,rfl⟩
  ·have e:k=l.length:=by omega
   have hr0:r=true:=by rw[hT.out,e,List.drop_length];rfl
   subst hr0;go_wp2_with fail;go_ret;exact⟨rfl,B.out⟩
theorem bj{s:ByteArray}:s.toList.isEmpty=true↔s=.empty:=by
 rw[List.isEmpty_iff];constructor;·intro h;obtain⟨⟨l⟩⟩:=s;rw[ByteArray.toList_eq] at h;simp at h;subst h;rfl
 ·rintro rfl;rw[ByteArray.toList_eq];rfl
theorem bK{s:ByteArray}(h:s≠.empty):s.toList.isEmpty=false:=by
 rw[Bool.eq_false_iff];exact fun e=>h (bj.1 e)
theorem bn(v:aa)(A:Option Addr)(c:Nat)(w:World):Calls Tryz.prog 140 #[.agg #[.int .i64 v.kind,.int .i64 v.n,.int .i64 v.x,.string v.s,.slice A v.l.length c]] w (cd w (.bool (decide (v.l.length=0)))):=by
 obtain⟨q,hq⟩: ∃q,q=v.l.length:=⟨_,rfl⟩;rw[←hq];clear hq;by_cases h:q=0;·subst h;go_enter Tryz.func140,Tryz.ntmps140;go_wp2_with fail;go_ret;exact⟨rfl,ab (af w) _⟩
 ·have h2:decide (q=0)=false:=decide_eq_false h;rw[h2];have h3:((q:Int)==0)=false:=by simp[h]
  go_enter Tryz.func140,Tryz.ntmps140;go_wp2_with fail;go_ret;exact⟨rfl,ab (af w) _⟩
def xO(v:aa):Prop:= ∀(A:Option Addr)(c:Nat)(w:World),bulkVal v≤1048576→bB v→SA w v.l A c→Calls Tryz.prog 79 #[.agg #[.int .i64 v.kind,.int .i64 v.n,.int .i64 v.x,.string v.s,.slice A v.l.length c]] w (cd w (.bool (valOkP v)))
theorem r6(v:aa):xO v:=by
 refine aa.ind (p:=xO) (fun v IH=> ?_) v;intro A c w hn hI hx;obtain⟨k,n,x,s,l⟩:=v;dsimp only at IH hx ⊢;have hn1:l.length≤1048576:=by rw[aw,aO] at hn;dsimp only at hn;omega
 have hns:s.size≤1099511627776:=by rw[aw] at hn;dsimp only at hn;omega
 have hp:Hid (∀j(h:j<l.length),bulkVal l[j]≤1048576):=fun j h=>by have:=dM bulkVal l h;rw[aw,aO] at hn;dsimp only at hn;omega
 have IH':=xQ IH;clear IH hn;have E:=xQ hx;clear hx;have HI:=xQ hI;clear hI;have HN:=xQ hns;clear hns;obtain⟨r,hr⟩: ∃r,r=valOkP ⟨k,n,x,s,l⟩:=⟨_,rfl⟩;rw[←hr];have R:=xQ hr;clear hr;go_enter Tryz.func79,Tryz.ntmps79;go_wp2_with fail;go_loopg[3] l.length (fun gk i wr=> ∃(j:Nat),j≤l.length∧i=.int .i64 (j:Int)∧gk=l.length-j∧ah wr w.heap.size 27 #[.int .i64 k,.int .i64 n,.int .i64 x,.string s,.slice A l.length c]∧Hid (valsOkP (l.take j)=true)∧Below w.heap.size w wr);case atStart=>exact⟨0,by omega,rfl,by omega,ah.at rfl,rfl,ab (af w) _⟩
 case round=>
  obtain⟨j,hj,rfl,rfl,hP0,hT,hbel⟩:=hrel;by_cases hlt:j<l.length;·obtain⟨b,off,A',c',rfl,hb,hI,hs,k0,k1,k2,k3,k4⟩:=(E.out.below hbel).cE hlt;obtain⟨p0,p1,p2,p3,p4⟩:=hP0.c5;have HS:=xQ (xP hI hs);clear hI hs;have P0:=xQ hP0;have B0:=xQ hbel;clear hP0 hbel;cases he:valOkP l[j] with|false=>(have hr0:r=false:=by rw[R.out,bG,qf hlt he,Bool.and_false]);subst hr0;have HE:=xQ he;clear he;go_wp2_with fail;refine(IH'.out j hlt A' c' _ (hp.out j hlt) HS.out.1 HS.out.2).mono ?_;rintro e w1 ⟨rfl,hb1⟩;rw[HE.out];have B1:=xQ (al B0.out hb1);clear hb1;go_wp2_with fail;go_ret;exact⟨rfl,B1.out⟩|true=>(have hT2:Hid (valsOkP (l.take (j+1))=true):=by show _=true;rw[List.take_succ_eq_append_getElem hlt,eW,hT.out,he];rfl);have HE:=xQ he;clear he;go_wp2_with fail;refine(IH'.out j hlt A' c' _ (hp.out j hlt) HS.out.1 HS.out.2).mono ?_;rintro e w1 ⟨rfl,hb1⟩;rw[HE.out];have P1:=xQ (P0.out.below hb1);have B1:=xQ (al B0.out hb1);clear hb1;go_wp2_with fail;go_roundg(l.length-(j+1));(case measure=>omega);case rel=>exact⟨j+1,by omega,by go_num,rfl,P1.out,hT2.out,B1.out⟩
  ·have e:j=l.length:=by omega
   have hall:valsOkP l=true:=by have:=hT.out;rw[e,List.take_length] at this;exact this
   have hrr:r=ae ⟨k,n,x,s,l⟩:=by rw[R.out,bG,hall,Bool.and_true]
   subst e;have HR:=xQ hrr;clear hrr hall R IH';have P0:=xQ hP0;have B0:=xQ hbel;clear hP0 hbel hT hlt;by_cases hkk:1≤k∧k≤11
   ·have hk11:k=1∨k=2∨k=3∨k=4∨k=5∨k=6∨k=7∨k=8∨k=9∨k=10∨k=11:=by omega
    clear hkk;rcases hk11 with rfl|rfl|rfl|rfl|rfl|rfl|rfl|rfl|rfl|rfl|rfl
    ·skip;by_cases hn:n=0
     ·subst hn;by_cases hx:x=0
      ·subst hx;by_cases hs:s=.empty
       ·have hse:=bj.2 hs;by_cases hl:l=[]
        ·have hll:l.length=0:=by rw[hl];rfl
         have hr0:r=true:=by rw[HR.out];simp[ae,hs,hl]
         subst hr0;have HLL:=xQ hll;clear hll;clear hs hl;obtain⟨p0,p1,p2,p3,p4⟩:=P0.out.c5;go_wp2_with fail;refine(bn ⟨1,0,0,s,l⟩ A c _).mono ?_;rintro e w1 ⟨rfl,hb1⟩;rw[decide_eq_true HLL.out];have P11:=xQ (P0.out.below hb1);have B11:=xQ (al B0.out hb1);clear hb1;obtain⟨q10,q11,q12,q13,q14⟩:=P11.out.c5;go_wp2_with fail;go_ret;exact⟨rfl,B11.out⟩
        ·have hll:l.length≠0:=fun e=>hl (List.length_eq_zero_iff.1 e);have hr0:r=false:=by rw[HR.out];simp[ae,hs,hl]
         subst hr0;have HLL:=xQ hll;clear hll;clear hs hl;obtain⟨p0,p1,p2,p3,p4⟩:=P0.out.c5;go_wp2_with fail;refine(bn ⟨1,0,0,s,l⟩ A c _).mono ?_;rintro e w1 ⟨rfl,hb1⟩;rw[decide_eq_false HLL.out];have P11:=xQ (P0.out.below hb1);have B11:=xQ (al B0.out hb1);clear hb1;obtain⟨q10,q11,q12,q13,q14⟩:=P11.out.c5;go_wp2_with fail;go_ret;exact⟨rfl,B11.out⟩
       ·have hse:=bK hs;have hr0:r=false:=by rw[HR.out];simp[ae,hs]
        subst hr0;clear hs;obtain⟨p0,p1,p2,p3,p4⟩:=P0.out.c5;go_wp2_with fail;go_ret;exact⟨rfl,B0.out⟩
      ·skip;have hr0:r=false:=by rw[HR.out];simp[ae,hx]
       subst hr0;obtain⟨p0,p1,p2,p3,p4⟩:=P0.out.c5;go_wp2_with fail;go_ret;exact⟨rfl,B0.out⟩
     ·skip;have hr0:r=false:=by rw[HR.out];simp[ae,hn]
      subst hr0;obtain⟨p0,p1,p2,p3,p4⟩:=P0.out.c5;go_wp2_with fail;go_ret;exact⟨rfl,B0.out⟩
    ·skip;by_cases hi:0≤n∧n≤1
     ·have hd:decide ((0:Int)≤n∧n≤1)=true:=decide_eq_true hi;by_cases hx:x=0
      ·subst hx;by_cases hs:s=.empty
       ·have hse:=bj.2 hs;by_cases hl:l=[]
        ·have hll:l.length=0:=by rw[hl];rfl
         have hr0:r=true:=by rw[HR.out];simp[ae,hi,hs,hl]
         subst hr0;have HD:=xQ hd;clear hd;have HLL:=xQ hll;clear hll;clear hi hs hl;obtain⟨p0,p1,p2,p3,p4⟩:=P0.out.c5;go_wp2_with fail;refine(aL _ _ _ _).mono ?_;rintro e w1 ⟨rfl,rfl⟩;rw[HD.out];go_wp2_with fail;refine(bn ⟨2,n,0,s,l⟩ A c _).mono ?_;rintro e w2 ⟨rfl,hb2⟩;rw[decide_eq_true HLL.out];have P12:=xQ (P0.out.below hb2);have B12:=xQ (al B0.out hb2);clear hb2;obtain⟨q20,q21,q22,q23,q24⟩:=P12.out.c5;go_wp2_with fail;go_ret;exact⟨rfl,B12.out⟩
        ·have hll:l.length≠0:=fun e=>hl (List.length_eq_zero_iff.1 e);have hr0:r=false:=by rw[HR.out];simp[ae,hi,hs,hl]
         subst hr0;have HD:=xQ hd;clear hd;have HLL:=xQ hll;clear hll;clear hi hs hl;obtain⟨p0,p1,p2,p3,p4⟩:=P0.out.c5;go_wp2_with fail;refine(aL _ _ _ _).mono ?_;rintro e w1 ⟨rfl,rfl⟩;rw[HD.out];go_wp2_with fail;refine(bn ⟨2,n,0,s,l⟩ A c _).mono ?_;rintro e w2 ⟨rfl,hb2⟩;rw[decide_eq_false HLL.out];have P12:=xQ (P0.out.below hb2);have B12:=xQ (al B0.out hb2);clear hb2;obtain⟨q20,q21,q22,q23,q24⟩:=P12.out.c5;go_wp2_with fail;go_ret;exact⟨rfl,B12.out⟩
       ·have hse:=bK hs;have hr0:r=false:=by rw[HR.out];simp[ae,hi,hs]
        subst hr0;have HD:=xQ hd;clear hd;clear hi hs;obtain⟨p0,p1,p2,p3,p4⟩:=P0.out.c5;go_wp2_with fail;refine(aL _ _ _ _).mono ?_;rintro e w1 ⟨rfl,rfl⟩;rw[HD.out];go_wp2_with fail;go_ret;exact⟨rfl,B0.out⟩
      ·skip;have hr0:r=false:=by rw[HR.out];simp[ae,hi,hx]
       subst hr0;have HD:=xQ hd;clear hd;clear hi;obtain⟨p0,p1,p2,p3,p4⟩:=P0.out.c5;go_wp2_with fail;refine(aL _ _ _ _).mono ?_;rintro e w1 ⟨rfl,rfl⟩;rw[HD.out];go_wp2_with fail;go_ret;exact⟨rfl,B0.out⟩
     ·have hd:decide ((0:Int)≤n∧n≤1)=false:=decide_eq_false hi;have hr0:r=false:=by rw[HR.out];simp[ae,hi]
      subst hr0;have HD:=xQ hd;clear hd;clear hi;obtain⟨p0,p1,p2,p3,p4⟩:=P0.out.c5;go_wp2_with fail;refine(aL _ _ _ _).mono ?_;rintro e w1 ⟨rfl,rfl⟩;rw[HD.out];go_wp2_with fail;go_ret;exact⟨rfl,B0.out⟩
    ·skip;by_cases hi: -1000000000000000≤n∧n≤1000000000000000
     ·have hd:decide ((-1000000000000000:Int)≤n∧n≤1000000000000000)=true:=decide_eq_true hi;by_cases hx:x=0
      ·subst hx;by_cases hs:s=.empty
       ·have hse:=bj.2 hs;by_cases hl:l=[]
        ·have hll:l.length=0:=by rw[hl];rfl
         have hr0:r=true:=by rw[HR.out];simp[ae,hi,hs,hl]
         subst hr0;have HD:=xQ hd;clear hd;have HLL:=xQ hll;clear hll;clear hi hs hl;obtain⟨p0,p1,p2,p3,p4⟩:=P0.out.c5;go_wp2_with fail;refine(aL _ _ _ _).mono ?_;rintro e w1 ⟨rfl,rfl⟩;rw[HD.out];go_wp2_with fail;refine(bn ⟨3,n,0,s,l⟩ A c _).mono ?_;rintro e w2 ⟨rfl,hb2⟩;rw[decide_eq_true HLL.out];have P12:=xQ (P0.out.below hb2);have B12:=xQ (al B0.out hb2);clear hb2;obtain⟨q20,q21,q22,q23,q24⟩:=P12.out.c5;go_wp2_with fail;go_ret;exact⟨rfl,B12.out⟩
        ·have hll:l.length≠0:=fun e=>hl (List.length_eq_zero_iff.1 e);have hr0:r=false:=by rw[HR.out];simp[ae,hi,hs,hl]
         subst hr0;have HD:=xQ hd;clear hd;have HLL:=xQ hll;clear hll;clear hi hs hl;obtain⟨p0,p1,p2,p3,p4⟩:=P0.out.c5;go_wp2_with fail;refine(aL _ _ _ _).mono ?_;rintro e w1 ⟨rfl,rfl⟩;rw[HD.out];go_wp2_with fail;refine(bn ⟨3,n,0,s,l⟩ A c _).mono ?_;rintro e w2 ⟨rfl,hb2⟩;rw[decide_eq_false HLL.out];have P12:=xQ (P0.out.below hb2);have B12:=xQ (al B0.out hb2);clear hb2;obtain⟨q20,q21,q22,q23,q24⟩:=P12.out.c5;go_wp2_with fail;go_ret;exact⟨rfl,B12.out⟩
       ·have hse:=bK hs;have hr0:r=false:=by rw[HR.out];simp[ae,hi,hs]
        subst hr0;have HD:=xQ hd;clear hd;clear hi hs;obtain⟨p0,p1,p2,p3,p4⟩:=P0.out.c5;go_wp2_with fail;refine(aL _ _ _ _).mono ?_;rintro e w1 ⟨rfl,rfl⟩;rw[HD.out];go_wp2_with fail;go_ret;exact⟨rfl,B0.out⟩
      ·skip;have hr0:r=false:=by rw[HR.out];simp[ae,hi,hx]
       subst hr0;have HD:=xQ hd;clear hd;clear hi;obtain⟨p0,p1,p2,p3,p4⟩:=P0.out.c5;go_wp2_with fail;refine(aL _ _ _ _).mono ?_;rintro e w1 ⟨rfl,rfl⟩;rw[HD.out];go_wp2_with fail;go_ret;exact⟨rfl,B0.out⟩
     ·have hd:decide ((-1000000000000000:Int)≤n∧n≤1000000000000000)=false:=decide_eq_false hi;have hr0:r=false:=by rw[HR.out];simp[ae,hi]
      subst hr0;have HD:=xQ hd;clear hd;clear hi;obtain⟨p0,p1,p2,p3,p4⟩:=P0.out.c5;go_wp2_with fail;refine(aL _ _ _ _).mono ?_;rintro e w1 ⟨rfl,rfl⟩;rw[HD.out];go_wp2_with fail;go_ret;exact⟨rfl,B0.out⟩
    ·skip;cases hf:a8 n x with|true=>by_cases hs:s=.empty;(·have hse:=bj.2 hs;by_cases hl:l=[];(·(have hll:l.length=0:=by rw[hl];rfl);(have hr0:r=true:=by rw[HR.out];simp[ae,hf,hs,hl]);subst hr0;have HF:=xQ hf;clear hf;have HLL:=xQ hll;clear hll;clear hs hl;obtain⟨p0,p1,p2,p3,p4⟩:=P0.out.c5;go_wp2_with fail;refine(cG n x _ HI.out.2.1).mono ?_;rintro e w1 ⟨rfl,hb1⟩;rw[HF.out];have P11:=xQ (P0.out.below hb1);have B11:=xQ (al B0.out hb1);clear hb1;obtain⟨q10,q11,q12,q13,q14⟩:=P11.out.c5;go_wp2_with fail;refine(bn ⟨4,n,x,s,l⟩ A c _).mono ?_;rintro e w2 ⟨rfl,hb2⟩;rw[decide_eq_true HLL.out];have P12:=xQ (P11.out.below hb2);have B12:=xQ (al B11.out hb2);clear hb2;obtain⟨q20,q21,q22,q23,q24⟩:=P12.out.c5;go_wp2_with fail;go_ret;exact⟨rfl,B12.out⟩);·have hll:l.length≠0:=fun e=>hl (List.length_eq_zero_iff.1 e);(have hr0:r=false:=by rw[HR.out];simp[ae,hf,hs,hl]);subst hr0;have HF:=xQ hf;clear hf;have HLL:=xQ hll;clear hll;clear hs hl;obtain⟨p0,p1,p2,p3,p4⟩:=P0.out.c5;go_wp2_with fail;refine(cG n x _ HI.out.2.1).mono ?_;rintro e w1 ⟨rfl,hb1⟩;rw[HF.out];have P11:=xQ (P0.out.below hb1);have B11:=xQ (al B0.out hb1);clear hb1;obtain⟨q10,q11,q12,q13,q14⟩:=P11.out.c5;go_wp2_with fail;refine(bn ⟨4,n,x,s,l⟩ A c _).mono ?_;rintro e w2 ⟨rfl,hb2⟩;rw[decide_eq_false HLL.out];have P12:=xQ (P11.out.below hb2);have B12:=xQ (al B11.out hb2);clear hb2;obtain⟨q20,q21,q22,q23,q24⟩:=P12.out.c5;go_wp2_with fail;go_ret;exact⟨rfl,B12.out⟩);·have hse:=bK hs;(have hr0:r=false:=by rw[HR.out];simp[ae,hf,hs]);subst hr0;have HF:=xQ hf;clear hf;clear hs;obtain⟨p0,p1,p2,p3,p4⟩:=P0.out.c5;go_wp2_with fail;refine(cG n x _ HI.out.2.1).mono ?_;rintro e w1 ⟨rfl,hb1⟩;rw[HF.out];have P11:=xQ (P0.out.below hb1);have B11:=xQ (al B0.out hb1);clear hb1;obtain⟨q10,q11,q12,q13,q14⟩:=P11.out.c5;go_wp2_with fail;go_ret;exact⟨rfl,B11.out⟩|false=>(have hr0:r=false:=by rw[HR.out];simp[ae,hf]);subst hr0;have HF:=xQ hf;clear hf;obtain⟨p0,p1,p2,p3,p4⟩:=P0.out.c5;go_wp2_with fail;refine(cG n x _ HI.out.2.1).mono ?_;rintro e w1 ⟨rfl,hb1⟩;rw[HF.out];have P11:=xQ (P0.out.below hb1);have B11:=xQ (al B0.out hb1);clear hb1;obtain⟨q10,q11,q12,q13,q14⟩:=P11.out.c5;go_wp2_with fail;go_ret;exact⟨rfl,B11.out⟩
    ·skip;by_cases hi:0≤n∧n≤2
     ·have hd:decide ((0:Int)≤n∧n≤2)=true:=decide_eq_true hi;by_cases hx:x=0
      ·subst hx;by_cases hs:s=.empty
       ·have hse:=bj.2 hs;by_cases hl:l=[]
        ·have hll:l.length=0:=by rw[hl];rfl
         have hr0:r=true:=by rw[HR.out];simp[ae,hi,hs,hl]
         subst hr0;have HD:=xQ hd;clear hd;have HLL:=xQ hll;clear hll;clear hi hs hl;obtain⟨p0,p1,p2,p3,p4⟩:=P0.out.c5;go_wp2_with fail;refine(aL _ _ _ _).mono ?_;rintro e w1 ⟨rfl,rfl⟩;rw[HD.out];go_wp2_with fail;refine(bn ⟨5,n,0,s,l⟩ A c _).mono ?_;rintro e w2 ⟨rfl,hb2⟩;rw[decide_eq_true HLL.out];have P12:=xQ (P0.out.below hb2);have B12:=xQ (al B0.out hb2);clear hb2;obtain⟨q20,q21,q22,q23,q24⟩:=P12.out.c5;go_wp2_with fail;go_ret;exact⟨rfl,B12.out⟩
        ·have hll:l.length≠0:=fun e=>hl (List.length_eq_zero_iff.1 e);have hr0:r=false:=by rw[HR.out];simp[ae,hi,hs,hl]
         subst hr0;have HD:=xQ hd;clear hd;have HLL:=xQ hll;clear hll;clear hi hs hl;obtain⟨p0,p1,p2,p3,p4⟩:=P0.out.c5;go_wp2_with fail;refine(aL _ _ _ _).mono ?_;rintro e w1 ⟨rfl,rfl⟩;rw[HD.out];go_wp2_with fail;refine(bn ⟨5,n,0,s,l⟩ A c _).mono ?_;rintro e w2 ⟨rfl,hb2⟩;rw[decide_eq_false HLL.out];have P12:=xQ (P0.out.below hb2);have B12:=xQ (al B0.out hb2);clear hb2;obtain⟨q20,q21,q22,q23,q24⟩:=P12.out.c5;go_wp2_with fail;go_ret;exact⟨rfl,B12.out⟩
       ·have hse:=bK hs;have hr0:r=false:=by rw[HR.out];simp[ae,hi,hs]
        subst hr0;have HD:=xQ hd;clear hd;clear hi hs;obtain⟨p0,p1,p2,p3,p4⟩:=P0.out.c5;go_wp2_with fail;refine(aL _ _ _ _).mono ?_;rintro e w1 ⟨rfl,rfl⟩;rw[HD.out];go_wp2_with fail;go_ret;exact⟨rfl,B0.out⟩
      ·skip;have hr0:r=false:=by rw[HR.out];simp[ae,hi,hx]
       subst hr0;have HD:=xQ hd;clear hd;clear hi;obtain⟨p0,p1,p2,p3,p4⟩:=P0.out.c5;go_wp2_with fail;refine(aL _ _ _ _).mono ?_;rintro e w1 ⟨rfl,rfl⟩;rw[HD.out];go_wp2_with fail;go_ret;exact⟨rfl,B0.out⟩
     ·have hd:decide ((0:Int)≤n∧n≤2)=false:=decide_eq_false hi;have hr0:r=false:=by rw[HR.out];simp[ae,hi]
      subst hr0;have HD:=xQ hd;clear hd;clear hi;obtain⟨p0,p1,p2,p3,p4⟩:=P0.out.c5;go_wp2_with fail;refine(aL _ _ _ _).mono ?_;rintro e w1 ⟨rfl,rfl⟩;rw[HD.out];go_wp2_with fail;go_ret;exact⟨rfl,B0.out⟩
    ·skip;cases hf:aT n x with|true=>by_cases hx:x<0;(·skip;by_cases hs:s=.empty;(·have hse:=bj.2 hs;by_cases hl:l=[];(·(have hll:l.length=0:=by rw[hl];rfl);(have hr0:r=true:=by rw[HR.out];simp[ae,hf,hx,hs,hl]);subst hr0;have HF:=xQ hf;clear hf;have HLL:=xQ hll;clear hll;clear hs hl;obtain⟨p0,p1,p2,p3,p4⟩:=P0.out.c5;go_wp2_with fail;refine(bq n x _ HI.out.2.1).mono ?_;rintro e w1 ⟨rfl,hb1⟩;rw[HF.out];have P11:=xQ (P0.out.below hb1);have B11:=xQ (al B0.out hb1);clear hb1;obtain⟨q10,q11,q12,q13,q14⟩:=P11.out.c5;go_wp2_with fail;refine(bn ⟨6,n,x,s,l⟩ A c _).mono ?_;rintro e w2 ⟨rfl,hb2⟩;rw[decide_eq_true HLL.out];have P12:=xQ (P11.out.below hb2);have B12:=xQ (al B11.out hb2);clear hb2;obtain⟨q20,q21,q22,q23,q24⟩:=P12.out.c5;go_wp2_with fail;go_ret;exact⟨rfl,B12.out⟩);·have hll:l.length≠0:=fun e=>hl (List.length_eq_zero_iff.1 e);(have hr0:r=false:=by rw[HR.out];simp[ae,hf,hx,hs,hl]);subst hr0;have HF:=xQ hf;clear hf;have HLL:=xQ hll;clear hll;clear hs hl;obtain⟨p0,p1,p2,p3,p4⟩:=P0.out.c5;go_wp2_with fail;refine(bq n x _ HI.out.2.1).mono ?_;rintro e w1 ⟨rfl,hb1⟩;rw[HF.out];have P11:=xQ (P0.out.below hb1);have B11:=xQ (al B0.out hb1);clear hb1;obtain⟨q10,q11,q12,q13,q14⟩:=P11.out.c5;go_wp2_with fail;refine(bn ⟨6,n,x,s,l⟩ A c _).mono ?_;rintro e w2 ⟨rfl,hb2⟩;rw[decide_eq_false HLL.out];have P12:=xQ (P11.out.below hb2);have B12:=xQ (al B11.out hb2);clear hb2;obtain⟨q20,q21,q22,q23,q24⟩:=P12.out.c5;go_wp2_with fail;go_ret;exact⟨rfl,B12.out⟩);·have hse:=bK hs;(have hr0:r=false:=by rw[HR.out];simp[ae,hf,hx,hs]);subst hr0;have HF:=xQ hf;clear hf;clear hs;obtain⟨p0,p1,p2,p3,p4⟩:=P0.out.c5;go_wp2_with fail;refine(bq n x _ HI.out.2.1).mono ?_;rintro e w1 ⟨rfl,hb1⟩;rw[HF.out];have P11:=xQ (P0.out.below hb1);have B11:=xQ (al B0.out hb1);clear hb1;obtain⟨q10,q11,q12,q13,q14⟩:=P11.out.c5;go_wp2_with fail;go_ret;exact⟨rfl,B11.out⟩);·skip;(have hr0:r=false:=by rw[HR.out];simp[ae,hf,hx]);subst hr0;have HF:=xQ hf;clear hf;obtain⟨p0,p1,p2,p3,p4⟩:=P0.out.c5;go_wp2_with fail;refine(bq n x _ HI.out.2.1).mono ?_;rintro e w1 ⟨rfl,hb1⟩;rw[HF.out];have P11:=xQ (P0.out.below hb1);have B11:=xQ (al B0.out hb1);clear hb1;obtain⟨q10,q11,q12,q13,q14⟩:=P11.out.c5;go_wp2_with fail;go_ret;exact⟨rfl,B11.out⟩|false=>(have hr0:r=false:=by rw[HR.out];simp[ae,hf]);subst hr0;have HF:=xQ hf;clear hf;obtain⟨p0,p1,p2,p3,p4⟩:=P0.out.c5;go_wp2_with fail;refine(bq n x _ HI.out.2.1).mono ?_;rintro e w1 ⟨rfl,hb1⟩;rw[HF.out];have P11:=xQ (P0.out.below hb1);have B11:=xQ (al B0.out hb1);clear hb1;obtain⟨q10,q11,q12,q13,q14⟩:=P11.out.c5;go_wp2_with fail;go_ret;exact⟨rfl,B11.out⟩
    ·skip;by_cases hn:n=0
     ·subst hn;by_cases hx:x=0;·subst hx;cases hf:bW s with|true=>by_cases hl:l=[];(·(have hll:l.length=0:=by rw[hl];rfl);(have hr0:r=true:=by rw[HR.out];simp[ae,hf,hl]);subst hr0;have HF:=xQ hf;clear hf;have HLL:=xQ hll;clear hll;clear hl;obtain⟨p0,p1,p2,p3,p4⟩:=P0.out.c5;go_wp2_with fail;refine(fm s _ HN.out).mono ?_;rintro e w1 ⟨rfl,hb1⟩;rw[HF.out];have P11:=xQ (P0.out.below hb1);have B11:=xQ (al B0.out hb1);clear hb1;obtain⟨q10,q11,q12,q13,q14⟩:=P11.out.c5;go_wp2_with fail;refine(bn ⟨7,0,0,s,l⟩ A c _).mono ?_;rintro e w2 ⟨rfl,hb2⟩;rw[decide_eq_true HLL.out];have P12:=xQ (P11.out.below hb2);have B12:=xQ (al B11.out hb2);clear hb2;obtain⟨q20,q21,q22,q23,q24⟩:=P12.out.c5;go_wp2_with fail;go_ret;exact⟨rfl,B12.out⟩);·have hll:l.length≠0:=fun e=>hl (List.length_eq_zero_iff.1 e);(have hr0:r=false:=by rw[HR.out];simp[ae,hf,hl]);subst hr0;have HF:=xQ hf;clear hf;have HLL:=xQ hll;clear hll;clear hl;obtain⟨p0,p1,p2,p3,p4⟩:=P0.out.c5;go_wp2_with fail;refine(fm s _ HN.out).mono ?_;rintro e w1 ⟨rfl,hb1⟩;rw[HF.out];have P11:=xQ (P0.out.below hb1);have B11:=xQ (al B0.out hb1);clear hb1;obtain⟨q10,q11,q12,q13,q14⟩:=P11.out.c5;go_wp2_with fail;refine(bn ⟨7,0,0,s,l⟩ A c _).mono ?_;rintro e w2 ⟨rfl,hb2⟩;rw[decide_eq_false HLL.out];have P12:=xQ (P11.out.below hb2);have B12:=xQ (al B11.out hb2);clear hb2;obtain⟨q20,q21,q22,q23,q24⟩:=P12.out.c5;go_wp2_with fail;go_ret;exact⟨rfl,B12.out⟩|false=>(have hr0:r=false:=by rw[HR.out];simp[ae,hf]);subst hr0;have HF:=xQ hf;clear hf;obtain⟨p0,p1,p2,p3,p4⟩:=P0.out.c5;go_wp2_with fail;refine(fm s _ HN.out).mono ?_;rintro e w1 ⟨rfl,hb1⟩;rw[HF.out];have P11:=xQ (P0.out.below hb1);have B11:=xQ (al B0.out hb1);clear hb1;obtain⟨q10,q11,q12,q13,q14⟩:=P11.out.c5;go_wp2_with fail;go_ret;exact⟨rfl,B11.out⟩
      ·skip;have hr0:r=false:=by rw[HR.out];simp[ae,hx]
       subst hr0;obtain⟨p0,p1,p2,p3,p4⟩:=P0.out.c5;go_wp2_with fail;go_ret;exact⟨rfl,B0.out⟩
     ·skip;have hr0:r=false:=by rw[HR.out];simp[ae,hn]
      subst hr0;obtain⟨p0,p1,p2,p3,p4⟩:=P0.out.c5;go_wp2_with fail;go_ret;exact⟨rfl,B0.out⟩
    ·skip;by_cases hn:n=0
     ·subst hn;by_cases hx:x=0
      ·subst hx;by_cases hl:l=[]
       ·have hll:l.length=0:=by rw[hl];rfl
        have hr0:r=true:=by rw[HR.out];simp[ae,hl]
        subst hr0;have HLL:=xQ hll;clear hll;clear hl;obtain⟨p0,p1,p2,p3,p4⟩:=P0.out.c5;go_wp2_with fail;refine(bn ⟨8,0,0,s,l⟩ A c _).mono ?_;rintro e w1 ⟨rfl,hb1⟩;rw[decide_eq_true HLL.out];have P11:=xQ (P0.out.below hb1);have B11:=xQ (al B0.out hb1);clear hb1;obtain⟨q10,q11,q12,q13,q14⟩:=P11.out.c5;go_wp2_with fail;go_ret;exact⟨rfl,B11.out⟩
       ·have hll:l.length≠0:=fun e=>hl (List.length_eq_zero_iff.1 e);have hr0:r=false:=by rw[HR.out];simp[ae,hl]
        subst hr0;have HLL:=xQ hll;clear hll;clear hl;obtain⟨p0,p1,p2,p3,p4⟩:=P0.out.c5;go_wp2_with fail;refine(bn ⟨8,0,0,s,l⟩ A c _).mono ?_;rintro e w1 ⟨rfl,hb1⟩;rw[decide_eq_false HLL.out];have P11:=xQ (P0.out.below hb1);have B11:=xQ (al B0.out hb1);clear hb1;obtain⟨q10,q11,q12,q13,q14⟩:=P11.out.c5;go_wp2_with fail;go_ret;exact⟨rfl,B11.out⟩
      ·skip;have hr0:r=false:=by rw[HR.out];simp[ae,hx]
       subst hr0;obtain⟨p0,p1,p2,p3,p4⟩:=P0.out.c5;go_wp2_with fail;go_ret;exact⟨rfl,B0.out⟩
     ·skip;have hr0:r=false:=by rw[HR.out];simp[ae,hn]
      subst hr0;obtain⟨p0,p1,p2,p3,p4⟩:=P0.out.c5;go_wp2_with fail;go_ret;exact⟨rfl,B0.out⟩
    ·skip;by_cases hn:n=0
     ·subst hn;by_cases hx:x=0
      ·subst hx;by_cases hs:s=.empty
       ·have hse:=bj.2 hs;have hr0:r=true:=by rw[HR.out];simp[ae,hs]
        subst hr0;clear hs;obtain⟨p0,p1,p2,p3,p4⟩:=P0.out.c5;go_wp2_with fail;go_ret;exact⟨rfl,B0.out⟩
       ·have hse:=bK hs;have hr0:r=false:=by rw[HR.out];simp[ae,hs]
        subst hr0;clear hs;obtain⟨p0,p1,p2,p3,p4⟩:=P0.out.c5;go_wp2_with fail;go_ret;exact⟨rfl,B0.out⟩
      ·skip;have hr0:r=false:=by rw[HR.out];simp[ae,hx]
       subst hr0;obtain⟨p0,p1,p2,p3,p4⟩:=P0.out.c5;go_wp2_with fail;go_ret;exact⟨rfl,B0.out⟩
     ·skip;have hr0:r=false:=by rw[HR.out];simp[ae,hn]
      subst hr0;obtain⟨p0,p1,p2,p3,p4⟩:=P0.out.c5;go_wp2_with fail;go_ret;exact⟨rfl,B0.out⟩
    ·skip;by_cases hn:n=0
     ·subst hn;by_cases hx:x=0
      ·subst hx;by_cases hs:s=.empty
       ·have hse:=bj.2 hs;by_cases hl:l.length%2=0
        ·have hle:((l.length:Int)%2==0)=true:=by simp;omega
         have hr0:r=true:=by rw[HR.out];simp[ae,hs,hl]
         subst hr0;clear hs;obtain⟨p0,p1,p2,p3,p4⟩:=P0.out.c5;go_wp2_with fail;go_ret;exact⟨rfl,B0.out⟩
        ·have hle:((l.length:Int)%2==0)=false:=by simp;omega
         have hr0:r=false:=by rw[HR.out];simp[ae,hs,hl]
         subst hr0;clear hs;obtain⟨p0,p1,p2,p3,p4⟩:=P0.out.c5;go_wp2_with fail;go_ret;exact⟨rfl,B0.out⟩
       ·have hse:=bK hs;have hr0:r=false:=by rw[HR.out];simp[ae,hs]
        subst hr0;clear hs;obtain⟨p0,p1,p2,p3,p4⟩:=P0.out.c5;go_wp2_with fail;go_ret;exact⟨rfl,B0.out⟩
      ·skip;have hr0:r=false:=by rw[HR.out];simp[ae,hx]
       subst hr0;obtain⟨p0,p1,p2,p3,p4⟩:=P0.out.c5;go_wp2_with fail;go_ret;exact⟨rfl,B0.out⟩
     ·skip;have hr0:r=false:=by rw[HR.out];simp[ae,hn]
      subst hr0;obtain⟨p0,p1,p2,p3,p4⟩:=P0.out.c5;go_wp2_with fail;go_ret;exact⟨rfl,B0.out⟩
    ·skip;by_cases hi:0≤n∧n≤1000000000000000
     ·have hd:decide ((0:Int)≤n∧n≤1000000000000000)=true:=decide_eq_true hi;by_cases hx:x=0
      ·subst hx;by_cases hs:s=.empty
       ·have hse:=bj.2 hs;by_cases hl:l.length=1
        ·have hle:((l.length:Int)==1)=true:=by simp;omega
         have hr0:r=true:=by rw[HR.out];simp[ae,hi,hs,hl]
         subst hr0;have HD:=xQ hd;clear hd;clear hi hs;obtain⟨p0,p1,p2,p3,p4⟩:=P0.out.c5;go_wp2_with fail;refine(aL _ _ _ _).mono ?_;rintro e w1 ⟨rfl,rfl⟩;rw[HD.out];go_wp2_with fail;go_ret;exact⟨rfl,B0.out⟩
        ·have hle:((l.length:Int)==1)=false:=by simp;omega
         have hr0:r=false:=by rw[HR.out];simp[ae,hi,hs,hl]
         subst hr0;have HD:=xQ hd;clear hd;clear hi hs;obtain⟨p0,p1,p2,p3,p4⟩:=P0.out.c5;go_wp2_with fail;refine(aL _ _ _ _).mono ?_;rintro e w1 ⟨rfl,rfl⟩;rw[HD.out];go_wp2_with fail;go_ret;exact⟨rfl,B0.out⟩
       ·have hse:=bK hs;have hr0:r=false:=by rw[HR.out];simp[ae,hi,hs]
        subst hr0;have HD:=xQ hd;clear hd;clear hi hs;obtain⟨p0,p1,p2,p3,p4⟩:=P0.out.c5;go_wp2_with fail;refine(aL _ _ _ _).mono ?_;rintro e w1 ⟨rfl,rfl⟩;rw[HD.out];go_wp2_with fail;go_ret;exact⟨rfl,B0.out⟩
      ·skip;have hr0:r=false:=by rw[HR.out];simp[ae,hi,hx]
       subst hr0;have HD:=xQ hd;clear hd;clear hi;obtain⟨p0,p1,p2,p3,p4⟩:=P0.out.c5;go_wp2_with fail;refine(aL _ _ _ _).mono ?_;rintro e w1 ⟨rfl,rfl⟩;rw[HD.out];go_wp2_with fail;go_ret;exact⟨rfl,B0.out⟩
     ·have hd:decide ((0:Int)≤n∧n≤1000000000000000)=false:=decide_eq_false hi;have hr0:r=false:=by rw[HR.out];simp[ae,hi]
      subst hr0;have HD:=xQ hd;clear hd;clear hi;obtain⟨p0,p1,p2,p3,p4⟩:=P0.out.c5;go_wp2_with fail;refine(aL _ _ _ _).mono ?_;rintro e w1 ⟨rfl,rfl⟩;rw[HD.out];go_wp2_with fail;go_ret;exact⟨rfl,B0.out⟩
   ·have hk1:k≠1∧k≠2∧k≠3∧k≠4∧k≠5∧k≠6∧k≠7∧k≠8∧k≠9∧k≠10∧k≠11:=by omega
    have hr0:r=false:=by rw[HR.out];simp[ae,hk1]
    clear hkk;obtain⟨k1,k2,k3,k4,k5,k6,k7,k8,k9,k10,k11⟩:=hk1;subst hr0;obtain⟨p0,p1,p2,p3,p4⟩:=P0.out.c5;go_wp2_with fail;go_ret;exact⟨rfl,B0.out⟩
theorem iY(v:aa)(A:Option Addr)(c:Nat)(w:World)(hn:bulkVal v≤1048576)(hI:bB v)(hx:SA w v.l A c):Calls Tryz.prog 79 #[.agg #[.int .i64 v.kind,.int .i64 v.n,.int .i64 v.x,.string v.s,.slice A v.l.length c]] w (cd w (.bool (valOkP v))):=r6 v A c w hn hI hx
end Go.Proofs.YtodpdjehjllhdaaGreatDoor
