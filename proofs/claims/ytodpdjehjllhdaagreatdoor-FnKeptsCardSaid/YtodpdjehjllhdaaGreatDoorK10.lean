/- Part of a proof: contracts and plain laws. -/
import Derived.Test.YtodpdjehjllhdaaGreatDoorK09
set_option linter.unusedVariables false
set_option linter.unusedSimpArgs false
set_option maxRecDepth 100000
set_option maxHeartbeats 20000000
namespace Go.Proofs.YtodpdjehjllhdaaGreatDoor
open Go.RowKit
theorem ml(w:World)(e:TypeId)(s:ByteArray):Below w.heap.size w (Lib.bytesWorld w e s):=⟨rfl,rfl,rfl,by rw[Lib.bytesWorld_size];omega,fun b hb=>Lib.bytesWorld_at_old w e s b hb⟩
theorem aN.bytes(w:World): ∀l:List UInt8,aN w l [] (l.map fun b=>Value.int .u8 (b.toNat:Int))|[]=>⟨rfl,rfl⟩|b::l=>⟨[],[],[.int .u8 (b.toNat:Int)],_,rfl,rfl,⟨rfl,rfl⟩,aN.bytes w l⟩
theorem oS(w:World)(e:TypeId)(s:ByteArray)(hs:s.size≤maxLen):SA (Lib.bytesWorld w e s) s.data.toList (some ⟨w.heap.size,0,none⟩) (grownCap w s.size 0 e):=by
 have hl:s.data.toList.length=s.size:=by rw[Array.length_toList];rfl
 by_cases h0:s.data.toList=[];·rw[h0];exact⟨[],⟨by simp,grownCap_le_maxLen w _ 0 e hs,.inl ⟨rfl,rfl,fun h=>by cases h⟩⟩,by simp⟩
 ·refine⟨[w.heap.size],⟨by rw[hl];exact grownCap_ge w _ 0 e,grownCap_le_maxLen w _ 0 e hs,.inr ⟨w.heap.size,0,[],_,rfl,rfl,aN.bytes _ _,?_⟩⟩,?_⟩
  ·intro j v hj;rw[List.getElem?_map] at hj;have hjl:j<s.data.toList.length:=by rcases Nat.lt_or_ge j s.data.toList.length with h|h;(·exact h);·rw[List.getElem?_eq_none h] at hj;cases hj
   rw[List.getElem?_eq_getElem hjl] at hj;injection hj with hj;rw[Nat.zero_add,Lib.bytesWorld_cell w e s j (by omega),←hj,List.getD_eq_getElem?_getD,List.getElem?_eq_getElem hjl];rfl
  ·intro b hb;simp at hb;rw[Lib.bytesWorld_size];omega
theorem fW(s:ByteArray)(w:World)(hs:s.size≤1099511627776):Calls Tryz.prog 144 #[.string s] w (bN w (.bool (b7 s))):=by
 have hl:s.data.toList.length=s.size:=by rw[Array.length_toList];rfl
 obtain⟨l,hll⟩: ∃l,l=s.data.toList:=⟨_,rfl⟩;obtain⟨r,hr⟩: ∃r,r=b7 s:=⟨_,rfl⟩;rw[←hr];unfold b7 at hr;have hcv:=Lib.run_convert_string_bytes (P:=Tryz.prog) w 9 22 5 s Tryz.underlying9 Tryz.underlying22 Tryz.underlying5;have hsa:=oS w 5 s (by unfold maxLen;omega);have hbe:=ml w 5 s;rw[←hll] at hr hl hsa;have hn:l.length≤1099511627776:=by omega
 obtain⟨W,hW⟩: ∃W,W=Lib.bytesWorld w 5 s:=⟨_,rfl⟩;rw[←hW] at hcv hsa hbe;obtain⟨c,hc⟩: ∃c,c=grownCap w s.size 0 5:=⟨_,rfl⟩;rw[←hc] at hcv hsa;rw[←hl] at hcv;have R:=Ad hr;have E:=Ad hsa;have B:=Ad hbe;clear hr hsa hbe hW hc hll hs hl;go_enter Tryz.func144,Tryz.ntmps144;go_wp2_with fail;go_loopg[4] l.length (fun gk i wr=> ∃(k:Nat),k≤l.length∧i=.int .i64 (k:Int)∧gk=l.length-k∧Hid (r=Lib.validD (l.drop k))∧wr=W);case atStart=>exact⟨0,by omega,rfl,by omega,R.out,rfl⟩
 case round=>
  obtain⟨k,hk,rfl,rfl,hT,rfl⟩:=hrel;by_cases hlt:k<l.length
  ·have hpos:0<(l.drop k).length:=by rw[List.length_drop];omega
   obtain⟨v1,v2⟩:=tf hpos;cases hg:gB (l.drop k) with|none=>(have hr0:r=false:=by rw[hT.out];exact v1 hg);subst hr0;have G:=Ad hg;clear hg v1 v2;go_wp2_with fail;refine(iH l k _ c _ hn hlt E.out).mono ?_;rintro e w1 ⟨rfl,rfl⟩;rw[G.out];unfold tA;go_wp2_with fail;go_ret;exact⟨rfl,B.out⟩|some p=>obtain⟨n,d⟩:=p;obtain⟨q1,q2,q3⟩:=v2 n d hg;rw[List.length_drop] at q3;(have HT2:Hid (r=Lib.validD (l.drop (k+d))):=by show _=_;rw[hT.out,q1,List.drop_drop]);have G:=Ad hg;clear hg v1 v2 q1;go_wp2_with fail;refine(iH l k _ c _ hn hlt E.out).mono ?_;rintro e w1 ⟨rfl,rfl⟩;rw[G.out];unfold tA;go_wp2_with fail;go_roundg(l.length-(k+d));(case measure=>omega);case rel=>exact⟨k+d,by omega,rfl,rfl,HT2.out,rfl⟩
  ·have e:k=l.length:=by omega
   have hr0:r=true:=by rw[hT.out,e,List.drop_length];rfl
   subst hr0;go_wp2_with fail;go_ret;exact⟨rfl,B.out⟩
theorem bq{s:ByteArray}:s.toList.isEmpty=true↔s=.empty:=by
 rw[List.isEmpty_iff];constructor;·intro h;obtain⟨⟨l⟩⟩:=s;rw[ByteArray.toList_eq] at h;simp at h;subst h;rfl
 ·rintro rfl;rw[ByteArray.toList_eq];rfl
theorem bP{s:ByteArray}(h:s≠.empty):s.toList.isEmpty=false:=by
 rw[Bool.eq_false_iff];exact fun e=>h (bq.1 e)
theorem bu(v:aa)(A:Option Addr)(c:Nat)(w:World):Calls Tryz.prog 140 #[.agg #[.int .i64 v.kind,.int .i64 v.n,.int .i64 v.x,.string v.s,.slice A v.l.length c]] w (bN w (.bool (decide (v.l.length=0)))):=by
 obtain⟨q,hq⟩: ∃q,q=v.l.length:=⟨_,rfl⟩;rw[←hq];clear hq;by_cases h:q=0;·subst h;go_enter Tryz.func140,Tryz.ntmps140;go_wp2_with fail;go_ret;exact⟨rfl,ab (ae w) _⟩
 ·have h2:decide (q=0)=false:=decide_eq_false h;rw[h2];have h3:((q:Int)==0)=false:=by simp[h]
  go_enter Tryz.func140,Tryz.ntmps140;go_wp2_with fail;go_ret;exact⟨rfl,ab (ae w) _⟩
def Aa(v:aa):Prop:= ∀(A:Option Addr)(c:Nat)(w:World),bulkVal v≤1048576→bC v→SA w v.l A c→Calls Tryz.prog 79 #[.agg #[.int .i64 v.kind,.int .i64 v.n,.int .i64 v.x,.string v.s,.slice A v.l.length c]] w (bN w (.bool (valOkP v)))
theorem uf(v:aa):Aa v:=by
 refine aa.ind (p:=Aa) (fun v IH=> ?_) v;intro A c w hn hI hx;obtain⟨k,n,x,s,l⟩:=v;dsimp only at IH hx ⊢;have hn1:l.length≤1048576:=by rw[au,aB] at hn;dsimp only at hn;omega
 have hns:s.size≤1099511627776:=by rw[au] at hn;dsimp only at hn;omega
 have hp:Hid (∀j(h:j<l.length),bulkVal l[j]≤1048576):=fun j h=>by have:=dJ bulkVal l h;rw[au,aB] at hn;dsimp only at hn;omega
 have IH':=Ad IH;clear IH hn;have E:=Ad hx;clear hx;have HI:=Ad hI;clear hI;have HN:=Ad hns;clear hns;obtain⟨r,hr⟩: ∃r,r=valOkP ⟨k,n,x,s,l⟩:=⟨_,rfl⟩;rw[←hr];have R:=Ad hr;clear hr;go_enter Tryz.func79,Tryz.ntmps79;go_wp2_with fail;go_loopg[3] l.length (fun gk i wr=> ∃(j:Nat),j≤l.length∧i=.int .i64 (j:Int)∧gk=l.length-j∧aj wr w.heap.size 27 #[.int .i64 k,.int .i64 n,.int .i64 x,.string s,.slice A l.length c]∧Hid (valsOkP (l.take j)=true)∧Below w.heap.size w wr);case atStart=>exact⟨0,by omega,rfl,by omega,aj.at rfl,rfl,ab (ae w) _⟩
 case round=>
  obtain⟨j,hj,rfl,rfl,hP0,hT,hbel⟩:=hrel;by_cases hlt:j<l.length;·obtain⟨b,off,A',c',rfl,hb,hI,hs,k0,k1,k2,k3,k4⟩:=(E.out.below hbel).bV hlt;obtain⟨p0,p1,p2,p3,p4⟩:=hP0.c5;have HS:=Ad (Ac hI hs);clear hI hs;have P0:=Ad hP0;have B0:=Ad hbel;clear hP0 hbel;cases he:valOkP l[j] with|false=>(have hr0:r=false:=by rw[R.out,bU,rR hlt he,Bool.and_false]);subst hr0;have HE:=Ad he;clear he;go_wp2_with fail;refine(IH'.out j hlt A' c' _ (hp.out j hlt) HS.out.1 HS.out.2).mono ?_;rintro e w1 ⟨rfl,hb1⟩;rw[HE.out];have B1:=Ad (ai B0.out hb1);clear hb1;go_wp2_with fail;go_ret;exact⟨rfl,B1.out⟩|true=>(have hT2:Hid (valsOkP (l.take (j+1))=true):=by show _=true;rw[List.take_succ_eq_append_getElem hlt,fI,hT.out,he];rfl);have HE:=Ad he;clear he;go_wp2_with fail;refine(IH'.out j hlt A' c' _ (hp.out j hlt) HS.out.1 HS.out.2).mono ?_;rintro e w1 ⟨rfl,hb1⟩;rw[HE.out];have P1:=Ad (P0.out.below hb1);have B1:=Ad (ai B0.out hb1);clear hb1;go_wp2_with fail;go_roundg(l.length-(j+1));(case measure=>omega);case rel=>exact⟨j+1,by omega,by go_num,rfl,P1.out,hT2.out,B1.out⟩
  ·have e:j=l.length:=by omega
   have hall:valsOkP l=true:=by have:=hT.out;rw[e,List.take_length] at this;exact this
   have hrr:r=af ⟨k,n,x,s,l⟩:=by rw[R.out,bU,hall,Bool.and_true]
   subst e;have HR:=Ad hrr;clear hrr hall R IH';have P0:=Ad hP0;have B0:=Ad hbel;clear hP0 hbel hT hlt;by_cases hkk:1≤k∧k≤11
   ·have hk11:k=1∨k=2∨k=3∨k=4∨k=5∨k=6∨k=7∨k=8∨k=9∨k=10∨k=11:=by omega
    clear hkk;rcases hk11 with rfl|rfl|rfl|rfl|rfl|rfl|rfl|rfl|rfl|rfl|rfl
    ·skip;by_cases hn:n=0
     ·subst hn;by_cases hx:x=0
      ·subst hx;by_cases hs:s=.empty
       ·have hse:=bq.2 hs;by_cases hl:l=[]
        ·have hll:l.length=0:=by rw[hl];rfl
         have hr0:r=true:=by rw[HR.out];simp[af,hs,hl]
         subst hr0;have HLL:=Ad hll;clear hll;clear hs hl;obtain⟨p0,p1,p2,p3,p4⟩:=P0.out.c5;go_wp2_with fail;refine(bu ⟨1,0,0,s,l⟩ A c _).mono ?_;rintro e w1 ⟨rfl,hb1⟩;rw[decide_eq_true HLL.out];have P11:=Ad (P0.out.below hb1);have B11:=Ad (ai B0.out hb1);clear hb1;obtain⟨q10,q11,q12,q13,q14⟩:=P11.out.c5;go_wp2_with fail;go_ret;exact⟨rfl,B11.out⟩
        ·have hll:l.length≠0:=fun e=>hl (List.length_eq_zero_iff.1 e);have hr0:r=false:=by rw[HR.out];simp[af,hs,hl]
         subst hr0;have HLL:=Ad hll;clear hll;clear hs hl;obtain⟨p0,p1,p2,p3,p4⟩:=P0.out.c5;go_wp2_with fail;refine(bu ⟨1,0,0,s,l⟩ A c _).mono ?_;rintro e w1 ⟨rfl,hb1⟩;rw[decide_eq_false HLL.out];have P11:=Ad (P0.out.below hb1);have B11:=Ad (ai B0.out hb1);clear hb1;obtain⟨q10,q11,q12,q13,q14⟩:=P11.out.c5;go_wp2_with fail;go_ret;exact⟨rfl,B11.out⟩
       ·have hse:=bP hs;have hr0:r=false:=by rw[HR.out];simp[af,hs]
        subst hr0;clear hs;obtain⟨p0,p1,p2,p3,p4⟩:=P0.out.c5;go_wp2_with fail;go_ret;exact⟨rfl,B0.out⟩
      ·skip;have hr0:r=false:=by rw[HR.out];simp[af,hx]
       subst hr0;obtain⟨p0,p1,p2,p3,p4⟩:=P0.out.c5;go_wp2_with fail;go_ret;exact⟨rfl,B0.out⟩
     ·skip;have hr0:r=false:=by rw[HR.out];simp[af,hn]
      subst hr0;obtain⟨p0,p1,p2,p3,p4⟩:=P0.out.c5;go_wp2_with fail;go_ret;exact⟨rfl,B0.out⟩
    ·skip;by_cases hi:0≤n∧n≤1
     ·have hd:decide ((0:Int)≤n∧n≤1)=true:=decide_eq_true hi;by_cases hx:x=0
      ·subst hx;by_cases hs:s=.empty
       ·have hse:=bq.2 hs;by_cases hl:l=[]
        ·have hll:l.length=0:=by rw[hl];rfl
         have hr0:r=true:=by rw[HR.out];simp[af,hi,hs,hl]
         subst hr0;have HD:=Ad hd;clear hd;have HLL:=Ad hll;clear hll;clear hi hs hl;obtain⟨p0,p1,p2,p3,p4⟩:=P0.out.c5;go_wp2_with fail;refine(aP _ _ _ _).mono ?_;rintro e w1 ⟨rfl,rfl⟩;rw[HD.out];go_wp2_with fail;refine(bu ⟨2,n,0,s,l⟩ A c _).mono ?_;rintro e w2 ⟨rfl,hb2⟩;rw[decide_eq_true HLL.out];have P12:=Ad (P0.out.below hb2);have B12:=Ad (ai B0.out hb2);clear hb2;obtain⟨q20,q21,q22,q23,q24⟩:=P12.out.c5;go_wp2_with fail;go_ret;exact⟨rfl,B12.out⟩
        ·have hll:l.length≠0:=fun e=>hl (List.length_eq_zero_iff.1 e);have hr0:r=false:=by rw[HR.out];simp[af,hi,hs,hl]
         subst hr0;have HD:=Ad hd;clear hd;have HLL:=Ad hll;clear hll;clear hi hs hl;obtain⟨p0,p1,p2,p3,p4⟩:=P0.out.c5;go_wp2_with fail;refine(aP _ _ _ _).mono ?_;rintro e w1 ⟨rfl,rfl⟩;rw[HD.out];go_wp2_with fail;refine(bu ⟨2,n,0,s,l⟩ A c _).mono ?_;rintro e w2 ⟨rfl,hb2⟩;rw[decide_eq_false HLL.out];have P12:=Ad (P0.out.below hb2);have B12:=Ad (ai B0.out hb2);clear hb2;obtain⟨q20,q21,q22,q23,q24⟩:=P12.out.c5;go_wp2_with fail;go_ret;exact⟨rfl,B12.out⟩
       ·have hse:=bP hs;have hr0:r=false:=by rw[HR.out];simp[af,hi,hs]
        subst hr0;have HD:=Ad hd;clear hd;clear hi hs;obtain⟨p0,p1,p2,p3,p4⟩:=P0.out.c5;go_wp2_with fail;refine(aP _ _ _ _).mono ?_;rintro e w1 ⟨rfl,rfl⟩;rw[HD.out];go_wp2_with fail;go_ret;exact⟨rfl,B0.out⟩
      ·skip;have hr0:r=false:=by rw[HR.out];simp[af,hi,hx]
       subst hr0;have HD:=Ad hd;clear hd;clear hi;obtain⟨p0,p1,p2,p3,p4⟩:=P0.out.c5;go_wp2_with fail;refine(aP _ _ _ _).mono ?_;rintro e w1 ⟨rfl,rfl⟩;rw[HD.out];go_wp2_with fail;go_ret;exact⟨rfl,B0.out⟩
     ·have hd:decide ((0:Int)≤n∧n≤1)=false:=decide_eq_false hi;have hr0:r=false:=by rw[HR.out];simp[af,hi]
      subst hr0;have HD:=Ad hd;clear hd;clear hi;obtain⟨p0,p1,p2,p3,p4⟩:=P0.out.c5;go_wp2_with fail;refine(aP _ _ _ _).mono ?_;rintro e w1 ⟨rfl,rfl⟩;rw[HD.out];go_wp2_with fail;go_ret;exact⟨rfl,B0.out⟩
    ·skip;by_cases hi: -1000000000000000≤n∧n≤1000000000000000
     ·have hd:decide ((-1000000000000000:Int)≤n∧n≤1000000000000000)=true:=decide_eq_true hi;by_cases hx:x=0
      ·subst hx;by_cases hs:s=.empty
       ·have hse:=bq.2 hs;by_cases hl:l=[]
        ·have hll:l.length=0:=by rw[hl];rfl
         have hr0:r=true:=by rw[HR.out];simp[af,hi,hs,hl]
         subst hr0;have HD:=Ad hd;clear hd;have HLL:=Ad hll;clear hll;clear hi hs hl;obtain⟨p0,p1,p2,p3,p4⟩:=P0.out.c5;go_wp2_with fail;refine(aP _ _ _ _).mono ?_;rintro e w1 ⟨rfl,rfl⟩;rw[HD.out];go_wp2_with fail;refine(bu ⟨3,n,0,s,l⟩ A c _).mono ?_;rintro e w2 ⟨rfl,hb2⟩;rw[decide_eq_true HLL.out];have P12:=Ad (P0.out.below hb2);have B12:=Ad (ai B0.out hb2);clear hb2;obtain⟨q20,q21,q22,q23,q24⟩:=P12.out.c5;go_wp2_with fail;go_ret;exact⟨rfl,B12.out⟩
        ·have hll:l.length≠0:=fun e=>hl (List.length_eq_zero_iff.1 e);have hr0:r=false:=by rw[HR.out];simp[af,hi,hs,hl]
         subst hr0;have HD:=Ad hd;clear hd;have HLL:=Ad hll;clear hll;clear hi hs hl;obtain⟨p0,p1,p2,p3,p4⟩:=P0.out.c5;go_wp2_with fail;refine(aP _ _ _ _).mono ?_;rintro e w1 ⟨rfl,rfl⟩;rw[HD.out];go_wp2_with fail;refine(bu ⟨3,n,0,s,l⟩ A c _).mono ?_;rintro e w2 ⟨rfl,hb2⟩;rw[decide_eq_false HLL.out];have P12:=Ad (P0.out.below hb2);have B12:=Ad (ai B0.out hb2);clear hb2;obtain⟨q20,q21,q22,q23,q24⟩:=P12.out.c5;go_wp2_with fail;go_ret;exact⟨rfl,B12.out⟩
       ·have hse:=bP hs;have hr0:r=false:=by rw[HR.out];simp[af,hi,hs]
        subst hr0;have HD:=Ad hd;clear hd;clear hi hs;obtain⟨p0,p1,p2,p3,p4⟩:=P0.out.c5;go_wp2_with fail;refine(aP _ _ _ _).mono ?_;rintro e w1 ⟨rfl,rfl⟩;rw[HD.out];go_wp2_with fail;go_ret;exact⟨rfl,B0.out⟩
      ·skip;have hr0:r=false:=by rw[HR.out];simp[af,hi,hx]
       subst hr0;have HD:=Ad hd;clear hd;clear hi;obtain⟨p0,p1,p2,p3,p4⟩:=P0.out.c5;go_wp2_with fail;refine(aP _ _ _ _).mono ?_;rintro e w1 ⟨rfl,rfl⟩;rw[HD.out];go_wp2_with fail;go_ret;exact⟨rfl,B0.out⟩
     ·have hd:decide ((-1000000000000000:Int)≤n∧n≤1000000000000000)=false:=decide_eq_false hi;have hr0:r=false:=by rw[HR.out];simp[af,hi]
      subst hr0;have HD:=Ad hd;clear hd;clear hi;obtain⟨p0,p1,p2,p3,p4⟩:=P0.out.c5;go_wp2_with fail;refine(aP _ _ _ _).mono ?_;rintro e w1 ⟨rfl,rfl⟩;rw[HD.out];go_wp2_with fail;go_ret;exact⟨rfl,B0.out⟩
    ·skip;cases hf:bg n x with|true=>by_cases hs:s=.empty;(·have hse:=bq.2 hs;by_cases hl:l=[];(·(have hll:l.length=0:=by rw[hl];rfl);(have hr0:r=true:=by rw[HR.out];simp[af,hf,hs,hl]);subst hr0;have HF:=Ad hf;clear hf;have HLL:=Ad hll;clear hll;clear hs hl;obtain⟨p0,p1,p2,p3,p4⟩:=P0.out.c5;go_wp2_with fail;refine(cQ n x _ HI.out.2.1).mono ?_;rintro e w1 ⟨rfl,hb1⟩;rw[HF.out];have P11:=Ad (P0.out.below hb1);have B11:=Ad (ai B0.out hb1);clear hb1;obtain⟨q10,q11,q12,q13,q14⟩:=P11.out.c5;go_wp2_with fail;refine(bu ⟨4,n,x,s,l⟩ A c _).mono ?_;rintro e w2 ⟨rfl,hb2⟩;rw[decide_eq_true HLL.out];have P12:=Ad (P11.out.below hb2);have B12:=Ad (ai B11.out hb2);clear hb2;obtain⟨q20,q21,q22,q23,q24⟩:=P12.out.c5;go_wp2_with fail;go_ret;exact⟨rfl,B12.out⟩);·have hll:l.length≠0:=fun e=>hl (List.length_eq_zero_iff.1 e);(have hr0:r=false:=by rw[HR.out];simp[af,hf,hs,hl]);subst hr0;have HF:=Ad hf;clear hf;have HLL:=Ad hll;clear hll;clear hs hl;obtain⟨p0,p1,p2,p3,p4⟩:=P0.out.c5;go_wp2_with fail;refine(cQ n x _ HI.out.2.1).mono ?_;rintro e w1 ⟨rfl,hb1⟩;rw[HF.out];have P11:=Ad (P0.out.below hb1);have B11:=Ad (ai B0.out hb1);clear hb1;obtain⟨q10,q11,q12,q13,q14⟩:=P11.out.c5;go_wp2_with fail;refine(bu ⟨4,n,x,s,l⟩ A c _).mono ?_;rintro e w2 ⟨rfl,hb2⟩;rw[decide_eq_false HLL.out];have P12:=Ad (P11.out.below hb2);have B12:=Ad (ai B11.out hb2);clear hb2;obtain⟨q20,q21,q22,q23,q24⟩:=P12.out.c5;go_wp2_with fail;go_ret;exact⟨rfl,B12.out⟩);·have hse:=bP hs;(have hr0:r=false:=by rw[HR.out];simp[af,hf,hs]);subst hr0;have HF:=Ad hf;clear hf;clear hs;obtain⟨p0,p1,p2,p3,p4⟩:=P0.out.c5;go_wp2_with fail;refine(cQ n x _ HI.out.2.1).mono ?_;rintro e w1 ⟨rfl,hb1⟩;rw[HF.out];have P11:=Ad (P0.out.below hb1);have B11:=Ad (ai B0.out hb1);clear hb1;obtain⟨q10,q11,q12,q13,q14⟩:=P11.out.c5;go_wp2_with fail;go_ret;exact⟨rfl,B11.out⟩|false=>(have hr0:r=false:=by rw[HR.out];simp[af,hf]);subst hr0;have HF:=Ad hf;clear hf;obtain⟨p0,p1,p2,p3,p4⟩:=P0.out.c5;go_wp2_with fail;refine(cQ n x _ HI.out.2.1).mono ?_;rintro e w1 ⟨rfl,hb1⟩;rw[HF.out];have P11:=Ad (P0.out.below hb1);have B11:=Ad (ai B0.out hb1);clear hb1;obtain⟨q10,q11,q12,q13,q14⟩:=P11.out.c5;go_wp2_with fail;go_ret;exact⟨rfl,B11.out⟩
    ·skip;by_cases hi:0≤n∧n≤2
     ·have hd:decide ((0:Int)≤n∧n≤2)=true:=decide_eq_true hi;by_cases hx:x=0
      ·subst hx;by_cases hs:s=.empty
       ·have hse:=bq.2 hs;by_cases hl:l=[]
        ·have hll:l.length=0:=by rw[hl];rfl
         have hr0:r=true:=by rw[HR.out];simp[af,hi,hs,hl]
         subst hr0;have HD:=Ad hd;clear hd;have HLL:=Ad hll;clear hll;clear hi hs hl;obtain⟨p0,p1,p2,p3,p4⟩:=P0.out.c5;go_wp2_with fail;refine(aP _ _ _ _).mono ?_;rintro e w1 ⟨rfl,rfl⟩;rw[HD.out];go_wp2_with fail;refine(bu ⟨5,n,0,s,l⟩ A c _).mono ?_;rintro e w2 ⟨rfl,hb2⟩;rw[decide_eq_true HLL.out];have P12:=Ad (P0.out.below hb2);have B12:=Ad (ai B0.out hb2);clear hb2;obtain⟨q20,q21,q22,q23,q24⟩:=P12.out.c5;go_wp2_with fail;go_ret;exact⟨rfl,B12.out⟩
        ·have hll:l.length≠0:=fun e=>hl (List.length_eq_zero_iff.1 e);have hr0:r=false:=by rw[HR.out];simp[af,hi,hs,hl]
         subst hr0;have HD:=Ad hd;clear hd;have HLL:=Ad hll;clear hll;clear hi hs hl;obtain⟨p0,p1,p2,p3,p4⟩:=P0.out.c5;go_wp2_with fail;refine(aP _ _ _ _).mono ?_;rintro e w1 ⟨rfl,rfl⟩;rw[HD.out];go_wp2_with fail;refine(bu ⟨5,n,0,s,l⟩ A c _).mono ?_;rintro e w2 ⟨rfl,hb2⟩;rw[decide_eq_false HLL.out];have P12:=Ad (P0.out.below hb2);have B12:=Ad (ai B0.out hb2);clear hb2;obtain⟨q20,q21,q22,q23,q24⟩:=P12.out.c5;go_wp2_with fail;go_ret;exact⟨rfl,B12.out⟩
       ·have hse:=bP hs;have hr0:r=false:=by rw[HR.out];simp[af,hi,hs]
        subst hr0;have HD:=Ad hd;clear hd;clear hi hs;obtain⟨p0,p1,p2,p3,p4⟩:=P0.out.c5;go_wp2_with fail;refine(aP _ _ _ _).mono ?_;rintro e w1 ⟨rfl,rfl⟩;rw[HD.out];go_wp2_with fail;go_ret;exact⟨rfl,B0.out⟩
      ·skip;have hr0:r=false:=by rw[HR.out];simp[af,hi,hx]
       subst hr0;have HD:=Ad hd;clear hd;clear hi;obtain⟨p0,p1,p2,p3,p4⟩:=P0.out.c5;go_wp2_with fail;refine(aP _ _ _ _).mono ?_;rintro e w1 ⟨rfl,rfl⟩;rw[HD.out];go_wp2_with fail;go_ret;exact⟨rfl,B0.out⟩
     ·have hd:decide ((0:Int)≤n∧n≤2)=false:=decide_eq_false hi;have hr0:r=false:=by rw[HR.out];simp[af,hi]
      subst hr0;have HD:=Ad hd;clear hd;clear hi;obtain⟨p0,p1,p2,p3,p4⟩:=P0.out.c5;go_wp2_with fail;refine(aP _ _ _ _).mono ?_;rintro e w1 ⟨rfl,rfl⟩;rw[HD.out];go_wp2_with fail;go_ret;exact⟨rfl,B0.out⟩
    ·skip;cases hf:aZ n x with|true=>by_cases hx:x<0;(·skip;by_cases hs:s=.empty;(·have hse:=bq.2 hs;by_cases hl:l=[];(·(have hll:l.length=0:=by rw[hl];rfl);(have hr0:r=true:=by rw[HR.out];simp[af,hf,hx,hs,hl]);subst hr0;have HF:=Ad hf;clear hf;have HLL:=Ad hll;clear hll;clear hs hl;obtain⟨p0,p1,p2,p3,p4⟩:=P0.out.c5;go_wp2_with fail;refine(bA n x _ HI.out.2.1).mono ?_;rintro e w1 ⟨rfl,hb1⟩;rw[HF.out];have P11:=Ad (P0.out.below hb1);have B11:=Ad (ai B0.out hb1);clear hb1;obtain⟨q10,q11,q12,q13,q14⟩:=P11.out.c5;go_wp2_with fail;refine(bu ⟨6,n,x,s,l⟩ A c _).mono ?_;rintro e w2 ⟨rfl,hb2⟩;rw[decide_eq_true HLL.out];have P12:=Ad (P11.out.below hb2);have B12:=Ad (ai B11.out hb2);clear hb2;obtain⟨q20,q21,q22,q23,q24⟩:=P12.out.c5;go_wp2_with fail;go_ret;exact⟨rfl,B12.out⟩);·have hll:l.length≠0:=fun e=>hl (List.length_eq_zero_iff.1 e);(have hr0:r=false:=by rw[HR.out];simp[af,hf,hx,hs,hl]);subst hr0;have HF:=Ad hf;clear hf;have HLL:=Ad hll;clear hll;clear hs hl;obtain⟨p0,p1,p2,p3,p4⟩:=P0.out.c5;go_wp2_with fail;refine(bA n x _ HI.out.2.1).mono ?_;rintro e w1 ⟨rfl,hb1⟩;rw[HF.out];have P11:=Ad (P0.out.below hb1);have B11:=Ad (ai B0.out hb1);clear hb1;obtain⟨q10,q11,q12,q13,q14⟩:=P11.out.c5;go_wp2_with fail;refine(bu ⟨6,n,x,s,l⟩ A c _).mono ?_;rintro e w2 ⟨rfl,hb2⟩;rw[decide_eq_false HLL.out];have P12:=Ad (P11.out.below hb2);have B12:=Ad (ai B11.out hb2);clear hb2;obtain⟨q20,q21,q22,q23,q24⟩:=P12.out.c5;go_wp2_with fail;go_ret;exact⟨rfl,B12.out⟩);·have hse:=bP hs;(have hr0:r=false:=by rw[HR.out];simp[af,hf,hx,hs]);subst hr0;have HF:=Ad hf;clear hf;clear hs;obtain⟨p0,p1,p2,p3,p4⟩:=P0.out.c5;go_wp2_with fail;refine(bA n x _ HI.out.2.1).mono ?_;rintro e w1 ⟨rfl,hb1⟩;rw[HF.out];have P11:=Ad (P0.out.below hb1);have B11:=Ad (ai B0.out hb1);clear hb1;obtain⟨q10,q11,q12,q13,q14⟩:=P11.out.c5;go_wp2_with fail;go_ret;exact⟨rfl,B11.out⟩);·skip;(have hr0:r=false:=by rw[HR.out];simp[af,hf,hx]);subst hr0;have HF:=Ad hf;clear hf;obtain⟨p0,p1,p2,p3,p4⟩:=P0.out.c5;go_wp2_with fail;refine(bA n x _ HI.out.2.1).mono ?_;rintro e w1 ⟨rfl,hb1⟩;rw[HF.out];have P11:=Ad (P0.out.below hb1);have B11:=Ad (ai B0.out hb1);clear hb1;obtain⟨q10,q11,q12,q13,q14⟩:=P11.out.c5;go_wp2_with fail;go_ret;exact⟨rfl,B11.out⟩|false=>(have hr0:r=false:=by rw[HR.out];simp[af,hf]);subst hr0;have HF:=Ad hf;clear hf;obtain⟨p0,p1,p2,p3,p4⟩:=P0.out.c5;go_wp2_with fail;refine(bA n x _ HI.out.2.1).mono ?_;rintro e w1 ⟨rfl,hb1⟩;rw[HF.out];have P11:=Ad (P0.out.below hb1);have B11:=Ad (ai B0.out hb1);clear hb1;obtain⟨q10,q11,q12,q13,q14⟩:=P11.out.c5;go_wp2_with fail;go_ret;exact⟨rfl,B11.out⟩
    ·skip;by_cases hn:n=0
     ·subst hn;by_cases hx:x=0;·subst hx;cases hf:b7 s with|true=>by_cases hl:l=[];(·(have hll:l.length=0:=by rw[hl];rfl);(have hr0:r=true:=by rw[HR.out];simp[af,hf,hl]);subst hr0;have HF:=Ad hf;clear hf;have HLL:=Ad hll;clear hll;clear hl;obtain⟨p0,p1,p2,p3,p4⟩:=P0.out.c5;go_wp2_with fail;refine(fW s _ HN.out).mono ?_;rintro e w1 ⟨rfl,hb1⟩;rw[HF.out];have P11:=Ad (P0.out.below hb1);have B11:=Ad (ai B0.out hb1);clear hb1;obtain⟨q10,q11,q12,q13,q14⟩:=P11.out.c5;go_wp2_with fail;refine(bu ⟨7,0,0,s,l⟩ A c _).mono ?_;rintro e w2 ⟨rfl,hb2⟩;rw[decide_eq_true HLL.out];have P12:=Ad (P11.out.below hb2);have B12:=Ad (ai B11.out hb2);clear hb2;obtain⟨q20,q21,q22,q23,q24⟩:=P12.out.c5;go_wp2_with fail;go_ret;exact⟨rfl,B12.out⟩);·have hll:l.length≠0:=fun e=>hl (List.length_eq_zero_iff.1 e);(have hr0:r=false:=by rw[HR.out];simp[af,hf,hl]);subst hr0;have HF:=Ad hf;clear hf;have HLL:=Ad hll;clear hll;clear hl;obtain⟨p0,p1,p2,p3,p4⟩:=P0.out.c5;go_wp2_with fail;refine(fW s _ HN.out).mono ?_;rintro e w1 ⟨rfl,hb1⟩;rw[HF.out];have P11:=Ad (P0.out.below hb1);have B11:=Ad (ai B0.out hb1);clear hb1;obtain⟨q10,q11,q12,q13,q14⟩:=P11.out.c5;go_wp2_with fail;refine(bu ⟨7,0,0,s,l⟩ A c _).mono ?_;rintro e w2 ⟨rfl,hb2⟩;rw[decide_eq_false HLL.out];have P12:=Ad (P11.out.below hb2);have B12:=Ad (ai B11.out hb2);clear hb2;obtain⟨q20,q21,q22,q23,q24⟩:=P12.out.c5;go_wp2_with fail;go_ret;exact⟨rfl,B12.out⟩|false=>(have hr0:r=false:=by rw[HR.out];simp[af,hf]);subst hr0;have HF:=Ad hf;clear hf;obtain⟨p0,p1,p2,p3,p4⟩:=P0.out.c5;go_wp2_with fail;refine(fW s _ HN.out).mono ?_;rintro e w1 ⟨rfl,hb1⟩;rw[HF.out];have P11:=Ad (P0.out.below hb1);have B11:=Ad (ai B0.out hb1);clear hb1;obtain⟨q10,q11,q12,q13,q14⟩:=P11.out.c5;go_wp2_with fail;go_ret;exact⟨rfl,B11.out⟩
      ·skip;have hr0:r=false:=by rw[HR.out];simp[af,hx]
       subst hr0;obtain⟨p0,p1,p2,p3,p4⟩:=P0.out.c5;go_wp2_with fail;go_ret;exact⟨rfl,B0.out⟩
     ·skip;have hr0:r=false:=by rw[HR.out];simp[af,hn]
      subst hr0;obtain⟨p0,p1,p2,p3,p4⟩:=P0.out.c5;go_wp2_with fail;go_ret;exact⟨rfl,B0.out⟩
    ·skip;by_cases hn:n=0
     ·subst hn;by_cases hx:x=0
      ·subst hx;by_cases hl:l=[]
       ·have hll:l.length=0:=by rw[hl];rfl
        have hr0:r=true:=by rw[HR.out];simp[af,hl]
        subst hr0;have HLL:=Ad hll;clear hll;clear hl;obtain⟨p0,p1,p2,p3,p4⟩:=P0.out.c5;go_wp2_with fail;refine(bu ⟨8,0,0,s,l⟩ A c _).mono ?_;rintro e w1 ⟨rfl,hb1⟩;rw[decide_eq_true HLL.out];have P11:=Ad (P0.out.below hb1);have B11:=Ad (ai B0.out hb1);clear hb1;obtain⟨q10,q11,q12,q13,q14⟩:=P11.out.c5;go_wp2_with fail;go_ret;exact⟨rfl,B11.out⟩
       ·have hll:l.length≠0:=fun e=>hl (List.length_eq_zero_iff.1 e);have hr0:r=false:=by rw[HR.out];simp[af,hl]
        subst hr0;have HLL:=Ad hll;clear hll;clear hl;obtain⟨p0,p1,p2,p3,p4⟩:=P0.out.c5;go_wp2_with fail;refine(bu ⟨8,0,0,s,l⟩ A c _).mono ?_;rintro e w1 ⟨rfl,hb1⟩;rw[decide_eq_false HLL.out];have P11:=Ad (P0.out.below hb1);have B11:=Ad (ai B0.out hb1);clear hb1;obtain⟨q10,q11,q12,q13,q14⟩:=P11.out.c5;go_wp2_with fail;go_ret;exact⟨rfl,B11.out⟩
      ·skip;have hr0:r=false:=by rw[HR.out];simp[af,hx]
       subst hr0;obtain⟨p0,p1,p2,p3,p4⟩:=P0.out.c5;go_wp2_with fail;go_ret;exact⟨rfl,B0.out⟩
     ·skip;have hr0:r=false:=by rw[HR.out];simp[af,hn]
      subst hr0;obtain⟨p0,p1,p2,p3,p4⟩:=P0.out.c5;go_wp2_with fail;go_ret;exact⟨rfl,B0.out⟩
    ·skip;by_cases hn:n=0
     ·subst hn;by_cases hx:x=0
      ·subst hx;by_cases hs:s=.empty
       ·have hse:=bq.2 hs;have hr0:r=true:=by rw[HR.out];simp[af,hs]
        subst hr0;clear hs;obtain⟨p0,p1,p2,p3,p4⟩:=P0.out.c5;go_wp2_with fail;go_ret;exact⟨rfl,B0.out⟩
       ·have hse:=bP hs;have hr0:r=false:=by rw[HR.out];simp[af,hs]
        subst hr0;clear hs;obtain⟨p0,p1,p2,p3,p4⟩:=P0.out.c5;go_wp2_with fail;go_ret;exact⟨rfl,B0.out⟩
      ·skip;have hr0:r=false:=by rw[HR.out];simp[af,hx]
       subst hr0;obtain⟨p0,p1,p2,p3,p4⟩:=P0.out.c5;go_wp2_with fail;go_ret;exact⟨rfl,B0.out⟩
     ·skip;have hr0:r=false:=by rw[HR.out];simp[af,hn]
      subst hr0;obtain⟨p0,p1,p2,p3,p4⟩:=P0.out.c5;go_wp2_with fail;go_ret;exact⟨rfl,B0.out⟩
    ·skip;by_cases hn:n=0
     ·subst hn;by_cases hx:x=0
      ·subst hx;by_cases hs:s=.empty
       ·have hse:=bq.2 hs;by_cases hl:l.length%2=0
        ·have hle:((l.length:Int)%2==0)=true:=by simp;omega
         have hr0:r=true:=by rw[HR.out];simp[af,hs,hl]
         subst hr0;clear hs;obtain⟨p0,p1,p2,p3,p4⟩:=P0.out.c5;go_wp2_with fail;go_ret;exact⟨rfl,B0.out⟩
        ·have hle:((l.length:Int)%2==0)=false:=by simp;omega
         have hr0:r=false:=by rw[HR.out];simp[af,hs,hl]
         subst hr0;clear hs;obtain⟨p0,p1,p2,p3,p4⟩:=P0.out.c5;go_wp2_with fail;go_ret;exact⟨rfl,B0.out⟩
       ·have hse:=bP hs;have hr0:r=false:=by rw[HR.out];simp[af,hs]
        subst hr0;clear hs;obtain⟨p0,p1,p2,p3,p4⟩:=P0.out.c5;go_wp2_with fail;go_ret;exact⟨rfl,B0.out⟩
      ·skip;have hr0:r=false:=by rw[HR.out];simp[af,hx]
       subst hr0;obtain⟨p0,p1,p2,p3,p4⟩:=P0.out.c5;go_wp2_with fail;go_ret;exact⟨rfl,B0.out⟩
     ·skip;have hr0:r=false:=by rw[HR.out];simp[af,hn]
      subst hr0;obtain⟨p0,p1,p2,p3,p4⟩:=P0.out.c5;go_wp2_with fail;go_ret;exact⟨rfl,B0.out⟩
    ·skip;by_cases hi:0≤n∧n≤1000000000000000
     ·have hd:decide ((0:Int)≤n∧n≤1000000000000000)=true:=decide_eq_true hi;by_cases hx:x=0
      ·subst hx;by_cases hs:s=.empty
       ·have hse:=bq.2 hs;by_cases hl:l.length=1
        ·have hle:((l.length:Int)==1)=true:=by simp;omega
         have hr0:r=true:=by rw[HR.out];simp[af,hi,hs,hl]
         subst hr0;have HD:=Ad hd;clear hd;clear hi hs;obtain⟨p0,p1,p2,p3,p4⟩:=P0.out.c5;go_wp2_with fail;refine(aP _ _ _ _).mono ?_;rintro e w1 ⟨rfl,rfl⟩;rw[HD.out];go_wp2_with fail;go_ret;exact⟨rfl,B0.out⟩
        ·have hle:((l.length:Int)==1)=false:=by simp;omega
         have hr0:r=false:=by rw[HR.out];simp[af,hi,hs,hl]
         subst hr0;have HD:=Ad hd;clear hd;clear hi hs;obtain⟨p0,p1,p2,p3,p4⟩:=P0.out.c5;go_wp2_with fail;refine(aP _ _ _ _).mono ?_;rintro e w1 ⟨rfl,rfl⟩;rw[HD.out];go_wp2_with fail;go_ret;exact⟨rfl,B0.out⟩
       ·have hse:=bP hs;have hr0:r=false:=by rw[HR.out];simp[af,hi,hs]
        subst hr0;have HD:=Ad hd;clear hd;clear hi hs;obtain⟨p0,p1,p2,p3,p4⟩:=P0.out.c5;go_wp2_with fail;refine(aP _ _ _ _).mono ?_;rintro e w1 ⟨rfl,rfl⟩;rw[HD.out];go_wp2_with fail;go_ret;exact⟨rfl,B0.out⟩
      ·skip;have hr0:r=false:=by rw[HR.out];simp[af,hi,hx]
       subst hr0;have HD:=Ad hd;clear hd;clear hi;obtain⟨p0,p1,p2,p3,p4⟩:=P0.out.c5;go_wp2_with fail;refine(aP _ _ _ _).mono ?_;rintro e w1 ⟨rfl,rfl⟩;rw[HD.out];go_wp2_with fail;go_ret;exact⟨rfl,B0.out⟩
     ·have hd:decide ((0:Int)≤n∧n≤1000000000000000)=false:=decide_eq_false hi;have hr0:r=false:=by rw[HR.out];simp[af,hi]
      subst hr0;have HD:=Ad hd;clear hd;clear hi;obtain⟨p0,p1,p2,p3,p4⟩:=P0.out.c5;go_wp2_with fail;refine(aP _ _ _ _).mono ?_;rintro e w1 ⟨rfl,rfl⟩;rw[HD.out];go_wp2_with fail;go_ret;exact⟨rfl,B0.out⟩
   ·have hk1:k≠1∧k≠2∧k≠3∧k≠4∧k≠5∧k≠6∧k≠7∧k≠8∧k≠9∧k≠10∧k≠11:=by omega
    have hr0:r=false:=by rw[HR.out];simp[af,hk1]
    clear hkk;obtain⟨k1,k2,k3,k4,k5,k6,k7,k8,k9,k10,k11⟩:=hk1;subst hr0;obtain⟨p0,p1,p2,p3,p4⟩:=P0.out.c5;go_wp2_with fail;go_ret;exact⟨rfl,B0.out⟩
theorem gE(v:aa)(A:Option Addr)(c:Nat)(w:World)(hn:bulkVal v≤1048576)(hI:bC v)(hx:SA w v.l A c):Calls Tryz.prog 79 #[.agg #[.int .i64 v.kind,.int .i64 v.n,.int .i64 v.x,.string v.s,.slice A v.l.length c]] w (bN w (.bool (valOkP v))):=uf v A c w hn hI hx
theorem pj(n:Int)(s:ByteArray)(A:Option Addr)(c:Nat)(w:World):Calls Tryz.prog 283 #[.agg #[.int .i64 3,.int .i64 n,.int .i64 0,.string s,.slice A 0 c]] w (bN w (.bool false)):=by
 have B0:=Ad (ab (ae w) (.cells #[.int .i64 3,.int .i64 n,.int .i64 0,.string s,.slice A 0 c] 27));go_enter Tryz.func283,Tryz.ntmps283;go_wp2_with fail;go_ret;exact⟨rfl,B0.out⟩
theorem oR(n:Int)(s:ByteArray)(A:Option Addr)(c:Nat)(w:World):Calls Tryz.prog 323 #[.agg #[.int .i64 3,.int .i64 n,.int .i64 0,.string s,.slice A 0 c]] w (bN w (aX 3 n 0 s)):=by
 have B0:=Ad (ab (ab (ab (ae w) (.cells #[.int .i64 3,.int .i64 n,.int .i64 0,.string s,.slice A 0 c] 27)) (.cells #[.int .i64 0,.int .i64 0,.int .i64 0,.string .empty,.slice none 0 0] 27)) (.cells #[.int .i64 3,.int .i64 n,.int .i64 0,.string s,.slice none 0 0] 27));have V0:=Ad (((aj.new w 27 #[.int .i64 3,.int .i64 n,.int .i64 0,.string s,.slice A 0 c]).alloc (.cells #[.int .i64 0,.int .i64 0,.int .i64 0,.string .empty,.slice none 0 0] 27)).alloc (.cells #[.int .i64 3,.int .i64 n,.int .i64 0,.string s,.slice none 0 0] 27));have Z0:=Ad ((aj.at (w:=w.alloc (.cells #[.int .i64 3,.int .i64 n,.int .i64 0,.string s,.slice A 0 c] 27)) (g:=w.heap.size+1) (t:=27) (cs:=#[.int .i64 0,.int .i64 0,.int .i64 0,.string .empty,.slice none 0 0]) (by simp)).alloc (.cells #[.int .i64 3,.int .i64 n,.int .i64 0,.string s,.slice none 0 0] 27));have T0:=Ad (aj.at (w:=(w.alloc (.cells #[.int .i64 3,.int .i64 n,.int .i64 0,.string s,.slice A 0 c] 27)).alloc (.cells #[.int .i64 0,.int .i64 0,.int .i64 0,.string .empty,.slice none 0 0] 27)) (g:=w.heap.size+1+1) (t:=27) (cs:=#[.int .i64 3,.int .i64 n,.int .i64 0,.string s,.slice none 0 0]) (by simp));go_enter Tryz.func323,Tryz.ntmps323;go_wp2_with fail;go_loopg[4] 0 (fun gk i wr=>i=.int .i64 0∧gk=0∧aj wr w.heap.size 27 #[.int .i64 3,.int .i64 n,.int .i64 0,.string s,.slice A 0 c]∧aj wr (w.heap.size+1) 27 #[.int .i64 0,.int .i64 0,.int .i64 0,.string .empty,.slice none 0 0]∧aj wr (w.heap.size+1+1) 27 #[.int .i64 3,.int .i64 n,.int .i64 0,.string s,.slice none 0 0]∧Below w.heap.size w wr);case atStart=>exact⟨rfl,rfl,V0.out,Z0.out,T0.out,B0.out⟩
 case round=>obtain⟨rfl,rfl,hV,hZ,hT,hbel⟩:=hrel;obtain⟨v0,v1,v2,v3,v4⟩:=hV.c5;have hv:=hV.lt;have HB0:=Ad (Ac hZ (Ac hT hbel));clear hZ hT hbel hV;go_wp2_with fail;refine(pj n s A c _).mono ?_;rintro e w1 ⟨rfl,hb⟩;have Z1:=Ad (HB0.out.1.below hb);have T1:=Ad (HB0.out.2.1.below hb);have HB:=Ad (ai HB0.out.2.2 hb);clear hb v0 v1 v2 v3 v4 hv;obtain⟨t0,t1,t2,t3,t4⟩:=T1.out.c5;have ht:=T1.out.lt;obtain⟨f0,f1,f2,f3,f4⟩:=Z1.out.f5;obtain⟨p0,p1,p2,p3,p4⟩:=Z1.out.c5;have hzz:=Z1.out.lt;go_wp2_with fail;refine bodyPost_ret (v:=.agg #[.int .i64 3,.int .i64 n,.int .i64 0,.string s,.slice none 0 0]) (by simp[results,Tryz.results323,go_sem, *]) rfl ?_;exact⟨rfl,cz HB.out (by omega) _ _ _ _ _⟩
theorem mn{n:Int}{s:ByteArray}:cB 1 ⟨3,n,0,s,[]⟩=(⟨3,n,0,s,[]⟩,0):=ob (by simp)
theorem o7(n:Int)(s:ByteArray)(A:Option Addr)(c:Nat)(w:World)(h0:0≤n)(h1:n≤3)(hs:s.size≤100):Calls Tryz.prog 282 #[.agg #[.int .i64 3,.int .i64 n,.int .i64 0,.string s,.slice A 0 c]] w (bN w (aX 3 n 0 s)):=by
 have B0:=Ad (ab (ab (ae w) (.cells #[.int .i64 3,.int .i64 n,.int .i64 0,.string s,.slice A 0 c] 27)) (.cells #[.int .i64 0,.int .i64 0,.int .i64 0,.string .empty,.slice none 0 0] 27));have V0:=Ad ((aj.new w 27 #[.int .i64 3,.int .i64 n,.int .i64 0,.string s,.slice A 0 c]).alloc (.cells #[.int .i64 0,.int .i64 0,.int .i64 0,.string .empty,.slice none 0 0] 27));have Z0:=Ad (aj.at (w:=w.alloc (.cells #[.int .i64 3,.int .i64 n,.int .i64 0,.string s,.slice A 0 c] 27)) (g:=w.heap.size+1) (t:=27) (cs:=#[.int .i64 0,.int .i64 0,.int .i64 0,.string .empty,.slice none 0 0]) (by simp));have hI:bC ⟨3,n,0,s,[]⟩:=⟨⟨by simp,by simp⟩,⟨by show _≤n;omega,by show n≤_;omega⟩,a8.zero,by show s.size≤_;unfold maxLen;omega⟩;have HC:=Ad (iu 1 (by omega) ⟨3,n,0,s,[]⟩ none 0 ((w.alloc (.cells #[.int .i64 3,.int .i64 n,.int .i64 0,.string s,.slice A 0 c] 27)).alloc (.cells #[.int .i64 0,.int .i64 0,.int .i64 0,.string .empty,.slice none 0 0] 27)) hI rfl ⟨fun _=>by simp[aZ];omega,by simp,by simp,by show s.size≤_;omega⟩ (SB.nil 0 _).sa);rw[mn] at HC;clear hI;go_enter Tryz.func282,Tryz.ntmps282;go_wp2_with fail;refine HC.out.mono ?_;rintro e w1 ⟨A1,c1,rfl,hsb,hb⟩;unfold eL;simp only[List.length_nil];have V1:=Ad (V0.out.below hb);have Z1:=Ad (Z0.out.below hb);have HB:=Ad (ai B0.out hb);clear hb hsb;have hz1:=Z1.out.lt;go_wp2_with fail;go_loopg[5] 0 (fun gk i wr=>i=.int .i64 0∧gk=0∧aj wr w.heap.size 27 #[.int .i64 3,.int .i64 n,.int .i64 0,.string s,.slice A 0 c]∧aj wr (w.heap.size+1) 27 #[.int .i64 0,.int .i64 0,.int .i64 0,.string .empty,.slice none 0 0]∧aj wr w1.heap.size 27 #[.int .i64 3,.int .i64 n,.int .i64 0,.string s,.slice A1 0 c1]∧Below w.heap.size w wr);case atStart=>exact⟨rfl,rfl,V1.out.alloc _,Z1.out.alloc _,aj.new w1 _ _,ab HB.out _⟩
 case round=>obtain⟨rfl,rfl,hV,hZ,hT,hbel⟩:=hrel;obtain⟨v0,v1,v2,v3,v4⟩:=hV.c5;have hv:=hV.lt;obtain⟨t0,t1,t2,t3,t4⟩:=hT.c5;have ht:=hT.lt;have HB0:=Ad (Ac hZ hbel);clear hZ hT hbel hV;go_wp2_with fail;refine(oR n s A1 c1 _).mono ?_;rintro e w2 ⟨rfl,hb⟩;have Z2:=Ad (HB0.out.1.below hb);have HB2:=Ad (ai HB0.out.2 hb);clear hb v0 v1 v2 v3 v4 hv t0 t1 t2 t3 t4 ht;obtain⟨f0,f1,f2,f3,f4⟩:=Z2.out.f5;obtain⟨p0,p1,p2,p3,p4⟩:=Z2.out.c5;have hzz:=Z2.out.lt;unfold aX;go_wp2_with fail;refine bodyPost_ret (v:=.agg #[.int .i64 3,.int .i64 n,.int .i64 0,.string s,.slice none 0 0]) (by simp[results,Tryz.results282,go_sem, *]) rfl ?_;exact⟨rfl,cz HB2.out (by omega) _ _ _ _ _⟩
theorem oE(n:Int)(s:ByteArray)(A:Option Addr)(c:Nat)(w:World)(h0:0≤n)(h1:n≤3):Calls Tryz.prog 261 #[.agg #[.int .i64 3,.int .i64 n,.int .i64 0,.string s,.slice A 0 c]] w (bN w (.string (eK n))):=by
 have B0:=Ad (ab (ae w) (.cells #[.int .i64 3,.int .i64 n,.int .i64 0,.string s,.slice A 0 c] 27));go_enter Tryz.func261,Tryz.ntmps261;go_wp2_with fail;refine(mW n _ ⟨by omega,by omega⟩).mono ?_;rintro e w1 ⟨rfl,hb⟩;have HB:=Ad (ai B0.out hb);clear hb;go_wp2_with fail;go_ret;exact⟨rfl,HB.out⟩
theorem bM.int{v:aa}(h:bM v):bC v∧bulkVal v≤8:=by
 obtain⟨hx,hl,h⟩:=h;refine⟨?_,?_⟩
 ·unfold bC;rw[hx];rcases h with⟨hk,h0,h1,hs⟩|⟨hk,hn,hs,_⟩;·rw[hk,hs];exact⟨⟨by simp,by simp⟩,⟨by omega,by omega⟩,a8.zero,by simp⟩
  ·rw[hk,hn];exact⟨⟨by simp,by simp⟩,a8.zero,a8.zero,by unfold maxLen;omega⟩
 ·rw[au,hl];rcases h with⟨hk,h0,h1,hs⟩|⟨hk,hn,hs,_⟩;·rw[hs];simp[bulkVals]
  ·simp[bulkVals];omega
theorem nk(v:aa)(A:Option Addr)(c:Nat)(w:World)(h:bM v)(hx:SA w v.l A c):Calls Tryz.prog 247 #[.agg #[.int .i64 v.kind,.int .i64 v.n,.int .i64 v.x,.string v.s,.slice A v.l.length c]] w (xN w (fQ v)):=by
 have hI:=h.int;have hok:=h.sI;obtain⟨k,n,x,s,l⟩:=v;obtain⟨h2,h3,h4⟩:=h;simp only at h2 h3 h4 hx;subst h2 h3;have E:=Ad (Ac hx (Ac hI hok));clear hx hI hok;unfold fQ;rcases h4 with⟨rfl,h0,h1,hs⟩|⟨rfl,hn,hs,_⟩
 ·have hs':s.size≤100:=by rw[hs];show 0≤100;omega
  have HS:=Ad (Ac hs hs');clear hs hs';simp only[show((3:Int)=7)=False by simp,if_false];unfold jm;have B0:=Ad (ab (ab (ae w) (.cells #[.int .i64 3,.int .i64 n,.int .i64 0,.string s,.slice A 0 c] 27)) (.cells #[.int .i64 0,.int .i64 0,.int .i64 0,.string .empty,.slice none 0 0] 27));have V0:=Ad ((aj.new w 27 #[.int .i64 3,.int .i64 n,.int .i64 0,.string s,.slice A 0 c]).alloc (.cells #[.int .i64 0,.int .i64 0,.int .i64 0,.string .empty,.slice none 0 0] 27));have Z0:=Ad (aj.at (w:=w.alloc (.cells #[.int .i64 3,.int .i64 n,.int .i64 0,.string s,.slice A 0 c] 27)) (g:=w.heap.size+1) (t:=27) (cs:=#[.int .i64 0,.int .i64 0,.int .i64 0,.string .empty,.slice none 0 0]) (by simp));have HC:=Ad (gE ⟨3,n,0,s,[]⟩ A c _ (by have:=E.out.2.1.2;omega) E.out.2.1.1 (E.out.1.below B0.out));rw[E.out.2.2] at HC;go_enter Tryz.func247,Tryz.ntmps247;go_wp2_with fail;refine HC.out.mono ?_;rintro e w1 ⟨rfl,hb⟩;have V1:=Ad (V0.out.below hb);have Z1:=Ad (Z0.out.below hb);have HB1:=Ad (ai B0.out hb);clear hb;obtain⟨v0,v1,v2,v3,v4⟩:=V1.out.c5;have hv:=V1.out.lt;go_wp2_with fail;refine(o7 n s A c _ h0 h1 HS.out.2).mono ?_;rintro e w2 ⟨rfl,hb⟩;have Z2:=Ad (Z1.out.below hb);have HB2:=Ad (ai HB1.out hb);clear hb v0 v1 v2 v3 v4 hv;unfold aX;go_wp2_with fail;refine(oE n s none 0 _ h0 h1).mono ?_;rintro e w3 ⟨rfl,hb⟩;have Z3:=Ad (Z2.out.below hb);have HB3:=Ad (ai HB2.out hb);clear hb;go_wp2_with fail;refine(iz (eK n) _).mono ?_;rintro e w4 ⟨rfl,hb⟩;have Z4:=Ad (Z3.out.below hb);have HB4:=Ad (ai HB3.out hb);clear hb;obtain⟨f0,f1,f2,f3,f4⟩:=Z4.out.f5;obtain⟨p0,p1,p2,p3,p4⟩:=Z4.out.c5;have hzz:=Z4.out.lt;unfold aX;go_wp2_with fail;refine bodyPost_ret (v:=.agg #[.int .i64 7,.int .i64 0,.int .i64 0,.string (eK n),.slice none 0 0]) (by simp[results,Tryz.results247,go_sem, *]) rfl ?_;exact⟨none,0,rfl,SB.nil _ _,cz HB4.out (by omega) _ _ _ _ _⟩
 ·subst hn;simp only[if_true];have B0:=Ad (ab (ab (ae w) (.cells #[.int .i64 7,.int .i64 0,.int .i64 0,.string s,.slice A 0 c] 27)) (.cells #[.int .i64 0,.int .i64 0,.int .i64 0,.string .empty,.slice none 0 0] 27));have Z0:=Ad (aj.at (w:=w.alloc (.cells #[.int .i64 7,.int .i64 0,.int .i64 0,.string s,.slice A 0 c] 27)) (g:=w.heap.size+1) (t:=27) (cs:=#[.int .i64 0,.int .i64 0,.int .i64 0,.string .empty,.slice none 0 0]) (by simp));go_enter Tryz.func247,Tryz.ntmps247;go_wp2_with fail;refine(jv ⟨7,0,0,s,[]⟩ A c _ (by have:=E.out.2.1.2;omega) E.out.2.1.1 (E.out.1.below B0.out)).mono ?_;rintro e w1 ⟨A1,c1,rfl,hsf,hb⟩;have Z1:=Ad (Z0.out.below hb);have HB:=Ad (Ac (ai B0.out hb) hsf);clear hb hsf;obtain⟨f0,f1,f2,f3,f4⟩:=Z1.out.f5;obtain⟨p0,p1,p2,p3,p4⟩:=Z1.out.c5;have hzz:=Z1.out.lt;go_wp2_with fail;refine bodyPost_ret (v:=.agg #[.int .i64 7,.int .i64 0,.int .i64 0,.string s,.slice A1 0 c1]) (by simp[results,Tryz.results247,go_sem, *]) rfl ?_;refine⟨A1,c1,rfl,?_,cz HB.out.1 (by omega) _ _ _ _ _⟩;exact(SB.bJ HB.out.2.sb (by simp) _ _ _ _ _).mono (by simp;omega)
end Go.Proofs.YtodpdjehjllhdaaGreatDoor
