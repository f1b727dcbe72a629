/- Part of a proof: contracts and plain laws. -/
import Derived.Test.YtodpdjehjllhdaaGreatDoorW10
set_option linter.unusedVariables false
set_option linter.unusedSimpArgs false
set_option maxRecDepth 100000
set_option maxHeartbeats 20000000
namespace Go.Proofs.YtodpdjehjllhdaaGreatDoor
open Go.RowKit
theorem bp{s:ByteArray}:s.toList.isEmpty=true↔s=.empty:=by
 rw[List.isEmpty_iff];constructor;·intro h;obtain⟨⟨l⟩⟩:=s;rw[ByteArray.toList_eq] at h;simp at h;subst h;rfl
 ·rintro rfl;rw[ByteArray.toList_eq];rfl
theorem bR{s:ByteArray}(h:s≠.empty):s.toList.isEmpty=false:=by
 rw[Bool.eq_false_iff];exact fun e=>h (bp.1 e)
theorem br(v:aa)(A:Option Addr)(c:Nat)(w:World):Calls Tryz.prog 140 #[.agg #[.int .i64 v.kind,.int .i64 v.n,.int .i64 v.x,.string v.s,.slice A v.l.length c]] w (bW w (.bool (decide (v.l.length=0)))):=by
 obtain⟨q,hq⟩: ∃q,q=v.l.length:=⟨_,rfl⟩;rw[←hq];clear hq;by_cases h:q=0;·subst h;go_enter Tryz.func140,Tryz.ntmps140;go_wp2_with fail;go_ret;exact⟨rfl,ab (ae w) _⟩
 ·have h2:decide (q=0)=false:=decide_eq_false h;rw[h2];have h3:((q:Int)==0)=false:=by simp[h]
  go_enter Tryz.func140,Tryz.ntmps140;go_wp2_with fail;go_ret;exact⟨rfl,ab (ae w) _⟩
def AG(v:aa):Prop:= ∀(A:Option Addr)(c:Nat)(w:World),bulkVal v≤1048576→bq v→SA w v.l A c→Calls Tryz.prog 79 #[.agg #[.int .i64 v.kind,.int .i64 v.n,.int .i64 v.x,.string v.s,.slice A v.l.length c]] w (bW w (.bool (valOkP v)))
theorem tk(v:aa):AG v:=by
 refine aa.ind (p:=AG) (fun v IH=> ?_) v;intro A c w hn hI hx;obtain⟨k,n,x,s,l⟩:=v;dsimp only at IH hx ⊢;have hn1:l.length≤1048576:=by rw[av,aC] at hn;dsimp only at hn;omega
 have hns:s.size≤1099511627776:=by rw[av] at hn;dsimp only at hn;omega
 have hp:Hid (∀j(h:j<l.length),bulkVal l[j]≤1048576):=fun j h=>by have:=et bulkVal l h;rw[av,aC] at hn;dsimp only at hn;omega
 have IH':=AJ IH;clear IH hn;have E:=AJ hx;clear hx;have HI:=AJ hI;clear hI;have HN:=AJ hns;clear hns;obtain⟨r,hr⟩: ∃r,r=valOkP ⟨k,n,x,s,l⟩:=⟨_,rfl⟩;rw[←hr];have R:=AJ hr;clear hr;go_enter Tryz.func79,Tryz.ntmps79;go_wp2_with fail;go_loopg[3] l.length (fun gk i wr=> ∃(j:Nat),j≤l.length∧i=.int .i64 (j:Int)∧gk=l.length-j∧ai wr w.heap.size 27 #[.int .i64 k,.int .i64 n,.int .i64 x,.string s,.slice A l.length c]∧Hid (valsOkP (l.take j)=true)∧Below w.heap.size w wr);case atStart=>exact⟨0,by omega,rfl,by omega,ai.at rfl,rfl,ab (ae w) _⟩
 case round=>
  obtain⟨j,hj,rfl,rfl,hP0,hT,hbel⟩:=hrel;by_cases hlt:j<l.length;·obtain⟨b,off,A',c',rfl,hb,hI,hs,k0,k1,k2,k3,k4⟩:=(E.out.below hbel).bI hlt;obtain⟨p0,p1,p2,p3,p4⟩:=hP0.c5;have HS:=AJ (AH hI hs);clear hI hs;have P0:=AJ hP0;have B0:=AJ hbel;clear hP0 hbel;cases he:valOkP l[j] with|false=>(have hr0:r=false:=by rw[R.out,bV,rI hlt he,Bool.and_false]);subst hr0;have HE:=AJ he;clear he;go_wp2_with fail;refine(IH'.out j hlt A' c' _ (hp.out j hlt) HS.out.1 HS.out.2).mono ?_;rintro e w1 ⟨rfl,hb1⟩;rw[HE.out];have B1:=AJ (ak B0.out hb1);clear hb1;go_wp2_with fail;go_ret;exact⟨rfl,B1.out⟩|true=>(have hT2:Hid (valsOkP (l.take (j+1))=true):=by show _=true;rw[List.take_succ_eq_append_getElem hlt,fC,hT.out,he];rfl);have HE:=AJ he;clear he;go_wp2_with fail;refine(IH'.out j hlt A' c' _ (hp.out j hlt) HS.out.1 HS.out.2).mono ?_;rintro e w1 ⟨rfl,hb1⟩;rw[HE.out];have P1:=AJ (P0.out.below hb1);have B1:=AJ (ak B0.out hb1);clear hb1;go_wp2_with fail;go_roundg(l.length-(j+1));(case measure=>omega);case rel=>exact⟨j+1,by omega,by go_num,rfl,P1.out,hT2.out,B1.out⟩
  ·have e:j=l.length:=by omega
   have hall:valsOkP l=true:=by have:=hT.out;rw[e,List.take_length] at this;exact this
   have hrr:r=af ⟨k,n,x,s,l⟩:=by rw[R.out,bV,hall,Bool.and_true]
   subst e;have HR:=AJ hrr;clear hrr hall R IH';have P0:=AJ hP0;have B0:=AJ hbel;clear hP0 hbel hT hlt;by_cases hkk:1≤k∧k≤11
   ·have hk11:k=1∨k=2∨k=3∨k=4∨k=5∨k=6∨k=7∨k=8∨k=9∨k=10∨k=11:=by omega
    clear hkk;rcases hk11 with rfl|rfl|rfl|rfl|rfl|rfl|rfl|rfl|rfl|rfl|rfl
    ·skip;by_cases hn:n=0
     ·subst hn;by_cases hx:x=0
      ·subst hx;by_cases hs:s=.empty
       ·have hse:=bp.2 hs;by_cases hl:l=[]
        ·have hll:l.length=0:=by rw[hl];rfl
         have hr0:r=true:=by rw[HR.out];simp[af,hs,hl]
         subst hr0;have HLL:=AJ hll;clear hll;clear hs hl;obtain⟨p0,p1,p2,p3,p4⟩:=P0.out.c5;go_wp2_with fail;refine(br ⟨1,0,0,s,l⟩ A c _).mono ?_;rintro e w1 ⟨rfl,hb1⟩;rw[decide_eq_true HLL.out];have P11:=AJ (P0.out.below hb1);have B11:=AJ (ak B0.out hb1);clear hb1;obtain⟨q10,q11,q12,q13,q14⟩:=P11.out.c5;go_wp2_with fail;go_ret;exact⟨rfl,B11.out⟩
        ·have hll:l.length≠0:=fun e=>hl (List.length_eq_zero_iff.1 e);have hr0:r=false:=by rw[HR.out];simp[af,hs,hl]
         subst hr0;have HLL:=AJ hll;clear hll;clear hs hl;obtain⟨p0,p1,p2,p3,p4⟩:=P0.out.c5;go_wp2_with fail;refine(br ⟨1,0,0,s,l⟩ A c _).mono ?_;rintro e w1 ⟨rfl,hb1⟩;rw[decide_eq_false HLL.out];have P11:=AJ (P0.out.below hb1);have B11:=AJ (ak B0.out hb1);clear hb1;obtain⟨q10,q11,q12,q13,q14⟩:=P11.out.c5;go_wp2_with fail;go_ret;exact⟨rfl,B11.out⟩
       ·have hse:=bR hs;have hr0:r=false:=by rw[HR.out];simp[af,hs]
        subst hr0;clear hs;obtain⟨p0,p1,p2,p3,p4⟩:=P0.out.c5;go_wp2_with fail;go_ret;exact⟨rfl,B0.out⟩
      ·skip;have hr0:r=false:=by rw[HR.out];simp[af,hx]
       subst hr0;obtain⟨p0,p1,p2,p3,p4⟩:=P0.out.c5;go_wp2_with fail;go_ret;exact⟨rfl,B0.out⟩
     ·skip;have hr0:r=false:=by rw[HR.out];simp[af,hn]
      subst hr0;obtain⟨p0,p1,p2,p3,p4⟩:=P0.out.c5;go_wp2_with fail;go_ret;exact⟨rfl,B0.out⟩
    ·skip;by_cases hi:0≤n∧n≤1
     ·have hd:decide ((0:Int)≤n∧n≤1)=true:=decide_eq_true hi;by_cases hx:x=0
      ·subst hx;by_cases hs:s=.empty
       ·have hse:=bp.2 hs;by_cases hl:l=[]
        ·have hll:l.length=0:=by rw[hl];rfl
         have hr0:r=true:=by rw[HR.out];simp[af,hi,hs,hl]
         subst hr0;have HD:=AJ hd;clear hd;have HLL:=AJ hll;clear hll;clear hi hs hl;obtain⟨p0,p1,p2,p3,p4⟩:=P0.out.c5;go_wp2_with fail;refine(aN _ _ _ _).mono ?_;rintro e w1 ⟨rfl,rfl⟩;rw[HD.out];go_wp2_with fail;refine(br ⟨2,n,0,s,l⟩ A c _).mono ?_;rintro e w2 ⟨rfl,hb2⟩;rw[decide_eq_true HLL.out];have P12:=AJ (P0.out.below hb2);have B12:=AJ (ak B0.out hb2);clear hb2;obtain⟨q20,q21,q22,q23,q24⟩:=P12.out.c5;go_wp2_with fail;go_ret;exact⟨rfl,B12.out⟩
        ·have hll:l.length≠0:=fun e=>hl (List.length_eq_zero_iff.1 e);have hr0:r=false:=by rw[HR.out];simp[af,hi,hs,hl]
         subst hr0;have HD:=AJ hd;clear hd;have HLL:=AJ hll;clear hll;clear hi hs hl;obtain⟨p0,p1,p2,p3,p4⟩:=P0.out.c5;go_wp2_with fail;refine(aN _ _ _ _).mono ?_;rintro e w1 ⟨rfl,rfl⟩;rw[HD.out];go_wp2_with fail;refine(br ⟨2,n,0,s,l⟩ A c _).mono ?_;rintro e w2 ⟨rfl,hb2⟩;rw[decide_eq_false HLL.out];have P12:=AJ (P0.out.below hb2);have B12:=AJ (ak B0.out hb2);clear hb2;obtain⟨q20,q21,q22,q23,q24⟩:=P12.out.c5;go_wp2_with fail;go_ret;exact⟨rfl,B12.out⟩
       ·have hse:=bR hs;have hr0:r=false:=by rw[HR.out];simp[af,hi,hs]
        subst hr0;have HD:=AJ hd;clear hd;clear hi hs;obtain⟨p0,p1,p2,p3,p4⟩:=P0.out.c5;go_wp2_with fail;refine(aN _ _ _ _).mono ?_;rintro e w1 ⟨rfl,rfl⟩;rw[HD.out];go_wp2_with fail;go_ret;exact⟨rfl,B0.out⟩
      ·skip;have hr0:r=false:=by rw[HR.out];simp[af,hi,hx]
       subst hr0;have HD:=AJ hd;clear hd;clear hi;obtain⟨p0,p1,p2,p3,p4⟩:=P0.out.c5;go_wp2_with fail;refine(aN _ _ _ _).mono ?_;rintro e w1 ⟨rfl,rfl⟩;rw[HD.out];go_wp2_with fail;go_ret;exact⟨rfl,B0.out⟩
     ·have hd:decide ((0:Int)≤n∧n≤1)=false:=decide_eq_false hi;have hr0:r=false:=by rw[HR.out];simp[af,hi]
      subst hr0;have HD:=AJ hd;clear hd;clear hi;obtain⟨p0,p1,p2,p3,p4⟩:=P0.out.c5;go_wp2_with fail;refine(aN _ _ _ _).mono ?_;rintro e w1 ⟨rfl,rfl⟩;rw[HD.out];go_wp2_with fail;go_ret;exact⟨rfl,B0.out⟩
    ·skip;by_cases hi: -1000000000000000≤n∧n≤1000000000000000
     ·have hd:decide ((-1000000000000000:Int)≤n∧n≤1000000000000000)=true:=decide_eq_true hi;by_cases hx:x=0
      ·subst hx;by_cases hs:s=.empty
       ·have hse:=bp.2 hs;by_cases hl:l=[]
        ·have hll:l.length=0:=by rw[hl];rfl
         have hr0:r=true:=by rw[HR.out];simp[af,hi,hs,hl]
         subst hr0;have HD:=AJ hd;clear hd;have HLL:=AJ hll;clear hll;clear hi hs hl;obtain⟨p0,p1,p2,p3,p4⟩:=P0.out.c5;go_wp2_with fail;refine(aN _ _ _ _).mono ?_;rintro e w1 ⟨rfl,rfl⟩;rw[HD.out];go_wp2_with fail;refine(br ⟨3,n,0,s,l⟩ A c _).mono ?_;rintro e w2 ⟨rfl,hb2⟩;rw[decide_eq_true HLL.out];have P12:=AJ (P0.out.below hb2);have B12:=AJ (ak B0.out hb2);clear hb2;obtain⟨q20,q21,q22,q23,q24⟩:=P12.out.c5;go_wp2_with fail;go_ret;exact⟨rfl,B12.out⟩
        ·have hll:l.length≠0:=fun e=>hl (List.length_eq_zero_iff.1 e);have hr0:r=false:=by rw[HR.out];simp[af,hi,hs,hl]
         subst hr0;have HD:=AJ hd;clear hd;have HLL:=AJ hll;clear hll;clear hi hs hl;obtain⟨p0,p1,p2,p3,p4⟩:=P0.out.c5;go_wp2_with fail;refine(aN _ _ _ _).mono ?_;rintro e w1 ⟨rfl,rfl⟩;rw[HD.out];go_wp2_with fail;refine(br ⟨3,n,0,s,l⟩ A c _).mono ?_;rintro e w2 ⟨rfl,hb2⟩;rw[decide_eq_false HLL.out];have P12:=AJ (P0.out.below hb2);have B12:=AJ (ak B0.out hb2);clear hb2;obtain⟨q20,q21,q22,q23,q24⟩:=P12.out.c5;go_wp2_with fail;go_ret;exact⟨rfl,B12.out⟩
       ·have hse:=bR hs;have hr0:r=false:=by rw[HR.out];simp[af,hi,hs]
        subst hr0;have HD:=AJ hd;clear hd;clear hi hs;obtain⟨p0,p1,p2,p3,p4⟩:=P0.out.c5;go_wp2_with fail;refine(aN _ _ _ _).mono ?_;rintro e w1 ⟨rfl,rfl⟩;rw[HD.out];go_wp2_with fail;go_ret;exact⟨rfl,B0.out⟩
      ·skip;have hr0:r=false:=by rw[HR.out];simp[af,hi,hx]
       subst hr0;have HD:=AJ hd;clear hd;clear hi;obtain⟨p0,p1,p2,p3,p4⟩:=P0.out.c5;go_wp2_with fail;refine(aN _ _ _ _).mono ?_;rintro e w1 ⟨rfl,rfl⟩;rw[HD.out];go_wp2_with fail;go_ret;exact⟨rfl,B0.out⟩
     ·have hd:decide ((-1000000000000000:Int)≤n∧n≤1000000000000000)=false:=decide_eq_false hi;have hr0:r=false:=by rw[HR.out];simp[af,hi]
      subst hr0;have HD:=AJ hd;clear hd;clear hi;obtain⟨p0,p1,p2,p3,p4⟩:=P0.out.c5;go_wp2_with fail;refine(aN _ _ _ _).mono ?_;rintro e w1 ⟨rfl,rfl⟩;rw[HD.out];go_wp2_with fail;go_ret;exact⟨rfl,B0.out⟩
    ·skip;cases hf:bh n x with|true=>by_cases hs:s=.empty;(·have hse:=bp.2 hs;by_cases hl:l=[];(·(have hll:l.length=0:=by rw[hl];rfl);(have hr0:r=true:=by rw[HR.out];simp[af,hf,hs,hl]);subst hr0;have HF:=AJ hf;clear hf;have HLL:=AJ hll;clear hll;clear hs hl;obtain⟨p0,p1,p2,p3,p4⟩:=P0.out.c5;go_wp2_with fail;refine(cP n x _ HI.out.2.1).mono ?_;rintro e w1 ⟨rfl,hb1⟩;rw[HF.out];have P11:=AJ (P0.out.below hb1);have B11:=AJ (ak B0.out hb1);clear hb1;obtain⟨q10,q11,q12,q13,q14⟩:=P11.out.c5;go_wp2_with fail;refine(br ⟨4,n,x,s,l⟩ A c _).mono ?_;rintro e w2 ⟨rfl,hb2⟩;rw[decide_eq_true HLL.out];have P12:=AJ (P11.out.below hb2);have B12:=AJ (ak B11.out hb2);clear hb2;obtain⟨q20,q21,q22,q23,q24⟩:=P12.out.c5;go_wp2_with fail;go_ret;exact⟨rfl,B12.out⟩);·have hll:l.length≠0:=fun e=>hl (List.length_eq_zero_iff.1 e);(have hr0:r=false:=by rw[HR.out];simp[af,hf,hs,hl]);subst hr0;have HF:=AJ hf;clear hf;have HLL:=AJ hll;clear hll;clear hs hl;obtain⟨p0,p1,p2,p3,p4⟩:=P0.out.c5;go_wp2_with fail;refine(cP n x _ HI.out.2.1).mono ?_;rintro e w1 ⟨rfl,hb1⟩;rw[HF.out];have P11:=AJ (P0.out.below hb1);have B11:=AJ (ak B0.out hb1);clear hb1;obtain⟨q10,q11,q12,q13,q14⟩:=P11.out.c5;go_wp2_with fail;refine(br ⟨4,n,x,s,l⟩ A c _).mono ?_;rintro e w2 ⟨rfl,hb2⟩;rw[decide_eq_false HLL.out];have P12:=AJ (P11.out.below hb2);have B12:=AJ (ak B11.out hb2);clear hb2;obtain⟨q20,q21,q22,q23,q24⟩:=P12.out.c5;go_wp2_with fail;go_ret;exact⟨rfl,B12.out⟩);·have hse:=bR hs;(have hr0:r=false:=by rw[HR.out];simp[af,hf,hs]);subst hr0;have HF:=AJ hf;clear hf;clear hs;obtain⟨p0,p1,p2,p3,p4⟩:=P0.out.c5;go_wp2_with fail;refine(cP n x _ HI.out.2.1).mono ?_;rintro e w1 ⟨rfl,hb1⟩;rw[HF.out];have P11:=AJ (P0.out.below hb1);have B11:=AJ (ak B0.out hb1);clear hb1;obtain⟨q10,q11,q12,q13,q14⟩:=P11.out.c5;go_wp2_with fail;go_ret;exact⟨rfl,B11.out⟩|false=>(have hr0:r=false:=by rw[HR.out];simp[af,hf]);subst hr0;have HF:=AJ hf;clear hf;obtain⟨p0,p1,p2,p3,p4⟩:=P0.out.c5;go_wp2_with fail;refine(cP n x _ HI.out.2.1).mono ?_;rintro e w1 ⟨rfl,hb1⟩;rw[HF.out];have P11:=AJ (P0.out.below hb1);have B11:=AJ (ak B0.out hb1);clear hb1;obtain⟨q10,q11,q12,q13,q14⟩:=P11.out.c5;go_wp2_with fail;go_ret;exact⟨rfl,B11.out⟩
    ·skip;by_cases hi:0≤n∧n≤2
     ·have hd:decide ((0:Int)≤n∧n≤2)=true:=decide_eq_true hi;by_cases hx:x=0
      ·subst hx;by_cases hs:s=.empty
       ·have hse:=bp.2 hs;by_cases hl:l=[]
        ·have hll:l.length=0:=by rw[hl];rfl
         have hr0:r=true:=by rw[HR.out];simp[af,hi,hs,hl]
         subst hr0;have HD:=AJ hd;clear hd;have HLL:=AJ hll;clear hll;clear hi hs hl;obtain⟨p0,p1,p2,p3,p4⟩:=P0.out.c5;go_wp2_with fail;refine(aN _ _ _ _).mono ?_;rintro e w1 ⟨rfl,rfl⟩;rw[HD.out];go_wp2_with fail;refine(br ⟨5,n,0,s,l⟩ A c _).mono ?_;rintro e w2 ⟨rfl,hb2⟩;rw[decide_eq_true HLL.out];have P12:=AJ (P0.out.below hb2);have B12:=AJ (ak B0.out hb2);clear hb2;obtain⟨q20,q21,q22,q23,q24⟩:=P12.out.c5;go_wp2_with fail;go_ret;exact⟨rfl,B12.out⟩
        ·have hll:l.length≠0:=fun e=>hl (List.length_eq_zero_iff.1 e);have hr0:r=false:=by rw[HR.out];simp[af,hi,hs,hl]
         subst hr0;have HD:=AJ hd;clear hd;have HLL:=AJ hll;clear hll;clear hi hs hl;obtain⟨p0,p1,p2,p3,p4⟩:=P0.out.c5;go_wp2_with fail;refine(aN _ _ _ _).mono ?_;rintro e w1 ⟨rfl,rfl⟩;rw[HD.out];go_wp2_with fail;refine(br ⟨5,n,0,s,l⟩ A c _).mono ?_;rintro e w2 ⟨rfl,hb2⟩;rw[decide_eq_false HLL.out];have P12:=AJ (P0.out.below hb2);have B12:=AJ (ak B0.out hb2);clear hb2;obtain⟨q20,q21,q22,q23,q24⟩:=P12.out.c5;go_wp2_with fail;go_ret;exact⟨rfl,B12.out⟩
       ·have hse:=bR hs;have hr0:r=false:=by rw[HR.out];simp[af,hi,hs]
        subst hr0;have HD:=AJ hd;clear hd;clear hi hs;obtain⟨p0,p1,p2,p3,p4⟩:=P0.out.c5;go_wp2_with fail;refine(aN _ _ _ _).mono ?_;rintro e w1 ⟨rfl,rfl⟩;rw[HD.out];go_wp2_with fail;go_ret;exact⟨rfl,B0.out⟩
      ·skip;have hr0:r=false:=by rw[HR.out];simp[af,hi,hx]
       subst hr0;have HD:=AJ hd;clear hd;clear hi;obtain⟨p0,p1,p2,p3,p4⟩:=P0.out.c5;go_wp2_with fail;refine(aN _ _ _ _).mono ?_;rintro e w1 ⟨rfl,rfl⟩;rw[HD.out];go_wp2_with fail;go_ret;exact⟨rfl,B0.out⟩
     ·have hd:decide ((0:Int)≤n∧n≤2)=false:=decide_eq_false hi;have hr0:r=false:=by rw[HR.out];simp[af,hi]
      subst hr0;have HD:=AJ hd;clear hd;clear hi;obtain⟨p0,p1,p2,p3,p4⟩:=P0.out.c5;go_wp2_with fail;refine(aN _ _ _ _).mono ?_;rintro e w1 ⟨rfl,rfl⟩;rw[HD.out];go_wp2_with fail;go_ret;exact⟨rfl,B0.out⟩
    ·skip;cases hf:aV n x with|true=>by_cases hx:x<0;(·skip;by_cases hs:s=.empty;(·have hse:=bp.2 hs;by_cases hl:l=[];(·(have hll:l.length=0:=by rw[hl];rfl);(have hr0:r=true:=by rw[HR.out];simp[af,hf,hx,hs,hl]);subst hr0;have HF:=AJ hf;clear hf;have HLL:=AJ hll;clear hll;clear hs hl;obtain⟨p0,p1,p2,p3,p4⟩:=P0.out.c5;go_wp2_with fail;refine(bw n x _ HI.out.2.1).mono ?_;rintro e w1 ⟨rfl,hb1⟩;rw[HF.out];have P11:=AJ (P0.out.below hb1);have B11:=AJ (ak B0.out hb1);clear hb1;obtain⟨q10,q11,q12,q13,q14⟩:=P11.out.c5;go_wp2_with fail;refine(br ⟨6,n,x,s,l⟩ A c _).mono ?_;rintro e w2 ⟨rfl,hb2⟩;rw[decide_eq_true HLL.out];have P12:=AJ (P11.out.below hb2);have B12:=AJ (ak B11.out hb2);clear hb2;obtain⟨q20,q21,q22,q23,q24⟩:=P12.out.c5;go_wp2_with fail;go_ret;exact⟨rfl,B12.out⟩);·have hll:l.length≠0:=fun e=>hl (List.length_eq_zero_iff.1 e);(have hr0:r=false:=by rw[HR.out];simp[af,hf,hx,hs,hl]);subst hr0;have HF:=AJ hf;clear hf;have HLL:=AJ hll;clear hll;clear hs hl;obtain⟨p0,p1,p2,p3,p4⟩:=P0.out.c5;go_wp2_with fail;refine(bw n x _ HI.out.2.1).mono ?_;rintro e w1 ⟨rfl,hb1⟩;rw[HF.out];have P11:=AJ (P0.out.below hb1);have B11:=AJ (ak B0.out hb1);clear hb1;obtain⟨q10,q11,q12,q13,q14⟩:=P11.out.c5;go_wp2_with fail;refine(br ⟨6,n,x,s,l⟩ A c _).mono ?_;rintro e w2 ⟨rfl,hb2⟩;rw[decide_eq_false HLL.out];have P12:=AJ (P11.out.below hb2);have B12:=AJ (ak B11.out hb2);clear hb2;obtain⟨q20,q21,q22,q23,q24⟩:=P12.out.c5;go_wp2_with fail;go_ret;exact⟨rfl,B12.out⟩);·have hse:=bR hs;(have hr0:r=false:=by rw[HR.out];simp[af,hf,hx,hs]);subst hr0;have HF:=AJ hf;clear hf;clear hs;obtain⟨p0,p1,p2,p3,p4⟩:=P0.out.c5;go_wp2_with fail;refine(bw n x _ HI.out.2.1).mono ?_;rintro e w1 ⟨rfl,hb1⟩;rw[HF.out];have P11:=AJ (P0.out.below hb1);have B11:=AJ (ak B0.out hb1);clear hb1;obtain⟨q10,q11,q12,q13,q14⟩:=P11.out.c5;go_wp2_with fail;go_ret;exact⟨rfl,B11.out⟩);·skip;(have hr0:r=false:=by rw[HR.out];simp[af,hf,hx]);subst hr0;have HF:=AJ hf;clear hf;obtain⟨p0,p1,p2,p3,p4⟩:=P0.out.c5;go_wp2_with fail;refine(bw n x _ HI.out.2.1).mono ?_;rintro e w1 ⟨rfl,hb1⟩;rw[HF.out];have P11:=AJ (P0.out.below hb1);have B11:=AJ (ak B0.out hb1);clear hb1;obtain⟨q10,q11,q12,q13,q14⟩:=P11.out.c5;go_wp2_with fail;go_ret;exact⟨rfl,B11.out⟩|false=>(have hr0:r=false:=by rw[HR.out];simp[af,hf]);subst hr0;have HF:=AJ hf;clear hf;obtain⟨p0,p1,p2,p3,p4⟩:=P0.out.c5;go_wp2_with fail;refine(bw n x _ HI.out.2.1).mono ?_;rintro e w1 ⟨rfl,hb1⟩;rw[HF.out];have P11:=AJ (P0.out.below hb1);have B11:=AJ (ak B0.out hb1);clear hb1;obtain⟨q10,q11,q12,q13,q14⟩:=P11.out.c5;go_wp2_with fail;go_ret;exact⟨rfl,B11.out⟩
    ·skip;by_cases hn:n=0
     ·subst hn;by_cases hx:x=0;·subst hx;cases hf:cd s with|true=>by_cases hl:l=[];(·(have hll:l.length=0:=by rw[hl];rfl);(have hr0:r=true:=by rw[HR.out];simp[af,hf,hl]);subst hr0;have HF:=AJ hf;clear hf;have HLL:=AJ hll;clear hll;clear hl;obtain⟨p0,p1,p2,p3,p4⟩:=P0.out.c5;go_wp2_with fail;refine(fS s _ HN.out).mono ?_;rintro e w1 ⟨rfl,hb1⟩;rw[HF.out];have P11:=AJ (P0.out.below hb1);have B11:=AJ (ak B0.out hb1);clear hb1;obtain⟨q10,q11,q12,q13,q14⟩:=P11.out.c5;go_wp2_with fail;refine(br ⟨7,0,0,s,l⟩ A c _).mono ?_;rintro e w2 ⟨rfl,hb2⟩;rw[decide_eq_true HLL.out];have P12:=AJ (P11.out.below hb2);have B12:=AJ (ak B11.out hb2);clear hb2;obtain⟨q20,q21,q22,q23,q24⟩:=P12.out.c5;go_wp2_with fail;go_ret;exact⟨rfl,B12.out⟩);·have hll:l.length≠0:=fun e=>hl (List.length_eq_zero_iff.1 e);(have hr0:r=false:=by rw[HR.out];simp[af,hf,hl]);subst hr0;have HF:=AJ hf;clear hf;have HLL:=AJ hll;clear hll;clear hl;obtain⟨p0,p1,p2,p3,p4⟩:=P0.out.c5;go_wp2_with fail;refine(fS s _ HN.out).mono ?_;rintro e w1 ⟨rfl,hb1⟩;rw[HF.out];have P11:=AJ (P0.out.below hb1);have B11:=AJ (ak B0.out hb1);clear hb1;obtain⟨q10,q11,q12,q13,q14⟩:=P11.out.c5;go_wp2_with fail;refine(br ⟨7,0,0,s,l⟩ A c _).mono ?_;rintro e w2 ⟨rfl,hb2⟩;rw[decide_eq_false HLL.out];have P12:=AJ (P11.out.below hb2);have B12:=AJ (ak B11.out hb2);clear hb2;obtain⟨q20,q21,q22,q23,q24⟩:=P12.out.c5;go_wp2_with fail;go_ret;exact⟨rfl,B12.out⟩|false=>(have hr0:r=false:=by rw[HR.out];simp[af,hf]);subst hr0;have HF:=AJ hf;clear hf;obtain⟨p0,p1,p2,p3,p4⟩:=P0.out.c5;go_wp2_with fail;refine(fS s _ HN.out).mono ?_;rintro e w1 ⟨rfl,hb1⟩;rw[HF.out];have P11:=AJ (P0.out.below hb1);have B11:=AJ (ak B0.out hb1);clear hb1;obtain⟨q10,q11,q12,q13,q14⟩:=P11.out.c5;go_wp2_with fail;go_ret;exact⟨rfl,B11.out⟩
      ·skip;have hr0:r=false:=by rw[HR.out];simp[af,hx]
       subst hr0;obtain⟨p0,p1,p2,p3,p4⟩:=P0.out.c5;go_wp2_with fail;go_ret;exact⟨rfl,B0.out⟩
     ·skip;have hr0:r=false:=by rw[HR.out];simp[af,hn]
      subst hr0;obtain⟨p0,p1,p2,p3,p4⟩:=P0.out.c5;go_wp2_with fail;go_ret;exact⟨rfl,B0.out⟩
    ·skip;by_cases hn:n=0
     ·subst hn;by_cases hx:x=0
      ·subst hx;by_cases hl:l=[]
       ·have hll:l.length=0:=by rw[hl];rfl
        have hr0:r=true:=by rw[HR.out];simp[af,hl]
        subst hr0;have HLL:=AJ hll;clear hll;clear hl;obtain⟨p0,p1,p2,p3,p4⟩:=P0.out.c5;go_wp2_with fail;refine(br ⟨8,0,0,s,l⟩ A c _).mono ?_;rintro e w1 ⟨rfl,hb1⟩;rw[decide_eq_true HLL.out];have P11:=AJ (P0.out.below hb1);have B11:=AJ (ak B0.out hb1);clear hb1;obtain⟨q10,q11,q12,q13,q14⟩:=P11.out.c5;go_wp2_with fail;go_ret;exact⟨rfl,B11.out⟩
       ·have hll:l.length≠0:=fun e=>hl (List.length_eq_zero_iff.1 e);have hr0:r=false:=by rw[HR.out];simp[af,hl]
        subst hr0;have HLL:=AJ hll;clear hll;clear hl;obtain⟨p0,p1,p2,p3,p4⟩:=P0.out.c5;go_wp2_with fail;refine(br ⟨8,0,0,s,l⟩ A c _).mono ?_;rintro e w1 ⟨rfl,hb1⟩;rw[decide_eq_false HLL.out];have P11:=AJ (P0.out.below hb1);have B11:=AJ (ak B0.out hb1);clear hb1;obtain⟨q10,q11,q12,q13,q14⟩:=P11.out.c5;go_wp2_with fail;go_ret;exact⟨rfl,B11.out⟩
      ·skip;have hr0:r=false:=by rw[HR.out];simp[af,hx]
       subst hr0;obtain⟨p0,p1,p2,p3,p4⟩:=P0.out.c5;go_wp2_with fail;go_ret;exact⟨rfl,B0.out⟩
     ·skip;have hr0:r=false:=by rw[HR.out];simp[af,hn]
      subst hr0;obtain⟨p0,p1,p2,p3,p4⟩:=P0.out.c5;go_wp2_with fail;go_ret;exact⟨rfl,B0.out⟩
    ·skip;by_cases hn:n=0
     ·subst hn;by_cases hx:x=0
      ·subst hx;by_cases hs:s=.empty
       ·have hse:=bp.2 hs;have hr0:r=true:=by rw[HR.out];simp[af,hs]
        subst hr0;clear hs;obtain⟨p0,p1,p2,p3,p4⟩:=P0.out.c5;go_wp2_with fail;go_ret;exact⟨rfl,B0.out⟩
       ·have hse:=bR hs;have hr0:r=false:=by rw[HR.out];simp[af,hs]
        subst hr0;clear hs;obtain⟨p0,p1,p2,p3,p4⟩:=P0.out.c5;go_wp2_with fail;go_ret;exact⟨rfl,B0.out⟩
      ·skip;have hr0:r=false:=by rw[HR.out];simp[af,hx]
       subst hr0;obtain⟨p0,p1,p2,p3,p4⟩:=P0.out.c5;go_wp2_with fail;go_ret;exact⟨rfl,B0.out⟩
     ·skip;have hr0:r=false:=by rw[HR.out];simp[af,hn]
      subst hr0;obtain⟨p0,p1,p2,p3,p4⟩:=P0.out.c5;go_wp2_with fail;go_ret;exact⟨rfl,B0.out⟩
    ·skip;by_cases hn:n=0
     ·subst hn;by_cases hx:x=0
      ·subst hx;by_cases hs:s=.empty
       ·have hse:=bp.2 hs;by_cases hl:l.length%2=0
        ·have hle:((l.length:Int)%2==0)=true:=by simp;omega
         have hr0:r=true:=by rw[HR.out];simp[af,hs,hl]
         subst hr0;clear hs;obtain⟨p0,p1,p2,p3,p4⟩:=P0.out.c5;go_wp2_with fail;go_ret;exact⟨rfl,B0.out⟩
        ·have hle:((l.length:Int)%2==0)=false:=by simp;omega
         have hr0:r=false:=by rw[HR.out];simp[af,hs,hl]
         subst hr0;clear hs;obtain⟨p0,p1,p2,p3,p4⟩:=P0.out.c5;go_wp2_with fail;go_ret;exact⟨rfl,B0.out⟩
       ·have hse:=bR hs;have hr0:r=false:=by rw[HR.out];simp[af,hs]
        subst hr0;clear hs;obtain⟨p0,p1,p2,p3,p4⟩:=P0.out.c5;go_wp2_with fail;go_ret;exact⟨rfl,B0.out⟩
      ·skip;have hr0:r=false:=by rw[HR.out];simp[af,hx]
       subst hr0;obtain⟨p0,p1,p2,p3,p4⟩:=P0.out.c5;go_wp2_with fail;go_ret;exact⟨rfl,B0.out⟩
     ·skip;have hr0:r=false:=by rw[HR.out];simp[af,hn]
      subst hr0;obtain⟨p0,p1,p2,p3,p4⟩:=P0.out.c5;go_wp2_with fail;go_ret;exact⟨rfl,B0.out⟩
    ·skip;by_cases hi:0≤n∧n≤1000000000000000
     ·have hd:decide ((0:Int)≤n∧n≤1000000000000000)=true:=decide_eq_true hi;by_cases hx:x=0
      ·subst hx;by_cases hs:s=.empty
       ·have hse:=bp.2 hs;by_cases hl:l.length=1
        ·have hle:((l.length:Int)==1)=true:=by simp;omega
         have hr0:r=true:=by rw[HR.out];simp[af,hi,hs,hl]
         subst hr0;have HD:=AJ hd;clear hd;clear hi hs;obtain⟨p0,p1,p2,p3,p4⟩:=P0.out.c5;go_wp2_with fail;refine(aN _ _ _ _).mono ?_;rintro e w1 ⟨rfl,rfl⟩;rw[HD.out];go_wp2_with fail;go_ret;exact⟨rfl,B0.out⟩
        ·have hle:((l.length:Int)==1)=false:=by simp;omega
         have hr0:r=false:=by rw[HR.out];simp[af,hi,hs,hl]
         subst hr0;have HD:=AJ hd;clear hd;clear hi hs;obtain⟨p0,p1,p2,p3,p4⟩:=P0.out.c5;go_wp2_with fail;refine(aN _ _ _ _).mono ?_;rintro e w1 ⟨rfl,rfl⟩;rw[HD.out];go_wp2_with fail;go_ret;exact⟨rfl,B0.out⟩
       ·have hse:=bR hs;have hr0:r=false:=by rw[HR.out];simp[af,hi,hs]
        subst hr0;have HD:=AJ hd;clear hd;clear hi hs;obtain⟨p0,p1,p2,p3,p4⟩:=P0.out.c5;go_wp2_with fail;refine(aN _ _ _ _).mono ?_;rintro e w1 ⟨rfl,rfl⟩;rw[HD.out];go_wp2_with fail;go_ret;exact⟨rfl,B0.out⟩
      ·skip;have hr0:r=false:=by rw[HR.out];simp[af,hi,hx]
       subst hr0;have HD:=AJ hd;clear hd;clear hi;obtain⟨p0,p1,p2,p3,p4⟩:=P0.out.c5;go_wp2_with fail;refine(aN _ _ _ _).mono ?_;rintro e w1 ⟨rfl,rfl⟩;rw[HD.out];go_wp2_with fail;go_ret;exact⟨rfl,B0.out⟩
     ·have hd:decide ((0:Int)≤n∧n≤1000000000000000)=false:=decide_eq_false hi;have hr0:r=false:=by rw[HR.out];simp[af,hi]
      subst hr0;have HD:=AJ hd;clear hd;clear hi;obtain⟨p0,p1,p2,p3,p4⟩:=P0.out.c5;go_wp2_with fail;refine(aN _ _ _ _).mono ?_;rintro e w1 ⟨rfl,rfl⟩;rw[HD.out];go_wp2_with fail;go_ret;exact⟨rfl,B0.out⟩
   ·have hk1:k≠1∧k≠2∧k≠3∧k≠4∧k≠5∧k≠6∧k≠7∧k≠8∧k≠9∧k≠10∧k≠11:=by omega
    have hr0:r=false:=by rw[HR.out];simp[af,hk1]
    clear hkk;obtain⟨k1,k2,k3,k4,k5,k6,k7,k8,k9,k10,k11⟩:=hk1;subst hr0;obtain⟨p0,p1,p2,p3,p4⟩:=P0.out.c5;go_wp2_with fail;go_ret;exact⟨rfl,B0.out⟩
theorem jK(v:aa)(A:Option Addr)(c:Nat)(w:World)(hn:bulkVal v≤1048576)(hI:bq v)(hx:SA w v.l A c):Calls Tryz.prog 79 #[.agg #[.int .i64 v.kind,.int .i64 v.n,.int .i64 v.x,.string v.s,.slice A v.l.length c]] w (bW w (.bool (valOkP v))):=tk v A c w hn hI hx
theorem px(n:Int)(s:ByteArray)(A:Option Addr)(c:Nat)(w:World):Calls Tryz.prog 283 #[.agg #[.int .i64 3,.int .i64 n,.int .i64 0,.string s,.slice A 0 c]] w (bW w (.bool false)):=by
 have B0:=AJ (ab (ae w) (.cells #[.int .i64 3,.int .i64 n,.int .i64 0,.string s,.slice A 0 c] 27));go_enter Tryz.func283,Tryz.ntmps283;go_wp2_with fail;go_ret;exact⟨rfl,B0.out⟩
theorem oP(n:Int)(s:ByteArray)(A:Option Addr)(c:Nat)(w:World):Calls Tryz.prog 323 #[.agg #[.int .i64 3,.int .i64 n,.int .i64 0,.string s,.slice A 0 c]] w (bW w (aW 3 n 0 s)):=by
 have B0:=AJ (ab (ab (ab (ae w) (.cells #[.int .i64 3,.int .i64 n,.int .i64 0,.string s,.slice A 0 c] 27)) (.cells #[.int .i64 0,.int .i64 0,.int .i64 0,.string .empty,.slice none 0 0] 27)) (.cells #[.int .i64 3,.int .i64 n,.int .i64 0,.string s,.slice none 0 0] 27));have V0:=AJ (((ai.new w 27 #[.int .i64 3,.int .i64 n,.int .i64 0,.string s,.slice A 0 c]).alloc (.cells #[.int .i64 0,.int .i64 0,.int .i64 0,.string .empty,.slice none 0 0] 27)).alloc (.cells #[.int .i64 3,.int .i64 n,.int .i64 0,.string s,.slice none 0 0] 27));have Z0:=AJ ((ai.at (w:=w.alloc (.cells #[.int .i64 3,.int .i64 n,.int .i64 0,.string s,.slice A 0 c] 27)) (g:=w.heap.size+1) (t:=27) (cs:=#[.int .i64 0,.int .i64 0,.int .i64 0,.string .empty,.slice none 0 0]) (by simp)).alloc (.cells #[.int .i64 3,.int .i64 n,.int .i64 0,.string s,.slice none 0 0] 27));have T0:=AJ (ai.at (w:=(w.alloc (.cells #[.int .i64 3,.int .i64 n,.int .i64 0,.string s,.slice A 0 c] 27)).alloc (.cells #[.int .i64 0,.int .i64 0,.int .i64 0,.string .empty,.slice none 0 0] 27)) (g:=w.heap.size+1+1) (t:=27) (cs:=#[.int .i64 3,.int .i64 n,.int .i64 0,.string s,.slice none 0 0]) (by simp));go_enter Tryz.func323,Tryz.ntmps323;go_wp2_with fail;go_loopg[4] 0 (fun gk i wr=>i=.int .i64 0∧gk=0∧ai wr w.heap.size 27 #[.int .i64 3,.int .i64 n,.int .i64 0,.string s,.slice A 0 c]∧ai wr (w.heap.size+1) 27 #[.int .i64 0,.int .i64 0,.int .i64 0,.string .empty,.slice none 0 0]∧ai wr (w.heap.size+1+1) 27 #[.int .i64 3,.int .i64 n,.int .i64 0,.string s,.slice none 0 0]∧Below w.heap.size w wr);case atStart=>exact⟨rfl,rfl,V0.out,Z0.out,T0.out,B0.out⟩
 case round=>obtain⟨rfl,rfl,hV,hZ,hT,hbel⟩:=hrel;obtain⟨v0,v1,v2,v3,v4⟩:=hV.c5;have hv:=hV.lt;have HB0:=AJ (AH hZ (AH hT hbel));clear hZ hT hbel hV;go_wp2_with fail;refine(px n s A c _).mono ?_;rintro e w1 ⟨rfl,hb⟩;have Z1:=AJ (HB0.out.1.below hb);have T1:=AJ (HB0.out.2.1.below hb);have HB:=AJ (ak HB0.out.2.2 hb);clear hb v0 v1 v2 v3 v4 hv;obtain⟨t0,t1,t2,t3,t4⟩:=T1.out.c5;have ht:=T1.out.lt;obtain⟨f0,f1,f2,f3,f4⟩:=Z1.out.f5;obtain⟨p0,p1,p2,p3,p4⟩:=Z1.out.c5;have hzz:=Z1.out.lt;go_wp2_with fail;refine bodyPost_ret (v:=.agg #[.int .i64 3,.int .i64 n,.int .i64 0,.string s,.slice none 0 0]) (by simp[results,Tryz.results323,go_sem, *]) rfl ?_;exact⟨rfl,cE HB.out (by omega) _ _ _ _ _⟩
theorem mq{n:Int}{s:ByteArray}:bZ 1 ⟨3,n,0,s,[]⟩=(⟨3,n,0,s,[]⟩,0):=nX (by simp)
theorem oV(n:Int)(s:ByteArray)(A:Option Addr)(c:Nat)(w:World)(h0:0≤n)(h1:n≤3)(hs:s.size≤100):Calls Tryz.prog 282 #[.agg #[.int .i64 3,.int .i64 n,.int .i64 0,.string s,.slice A 0 c]] w (bW w (aW 3 n 0 s)):=by
 have B0:=AJ (ab (ab (ae w) (.cells #[.int .i64 3,.int .i64 n,.int .i64 0,.string s,.slice A 0 c] 27)) (.cells #[.int .i64 0,.int .i64 0,.int .i64 0,.string .empty,.slice none 0 0] 27));have V0:=AJ ((ai.new w 27 #[.int .i64 3,.int .i64 n,.int .i64 0,.string s,.slice A 0 c]).alloc (.cells #[.int .i64 0,.int .i64 0,.int .i64 0,.string .empty,.slice none 0 0] 27));have Z0:=AJ (ai.at (w:=w.alloc (.cells #[.int .i64 3,.int .i64 n,.int .i64 0,.string s,.slice A 0 c] 27)) (g:=w.heap.size+1) (t:=27) (cs:=#[.int .i64 0,.int .i64 0,.int .i64 0,.string .empty,.slice none 0 0]) (by simp));have hI:bq ⟨3,n,0,s,[]⟩:=⟨⟨by simp,by simp⟩,⟨by show _≤n;omega,by show n≤_;omega⟩,aT.zero,by show s.size≤_;unfold maxLen;omega⟩;have HC:=AJ (iv 1 (by omega) ⟨3,n,0,s,[]⟩ none 0 ((w.alloc (.cells #[.int .i64 3,.int .i64 n,.int .i64 0,.string s,.slice A 0 c] 27)).alloc (.cells #[.int .i64 0,.int .i64 0,.int .i64 0,.string .empty,.slice none 0 0] 27)) hI rfl ⟨fun _=>by simp[aV];omega,by simp,by simp,by show s.size≤_;omega⟩ (SB.nil 0 _).sa);rw[mq] at HC;clear hI;go_enter Tryz.func282,Tryz.ntmps282;go_wp2_with fail;refine HC.out.mono ?_;rintro e w1 ⟨A1,c1,rfl,hsb,hb⟩;unfold eT;simp only[List.length_nil];have V1:=AJ (V0.out.below hb);have Z1:=AJ (Z0.out.below hb);have HB:=AJ (ak B0.out hb);clear hb hsb;have hz1:=Z1.out.lt;go_wp2_with fail;go_loopg[5] 0 (fun gk i wr=>i=.int .i64 0∧gk=0∧ai wr w.heap.size 27 #[.int .i64 3,.int .i64 n,.int .i64 0,.string s,.slice A 0 c]∧ai wr (w.heap.size+1) 27 #[.int .i64 0,.int .i64 0,.int .i64 0,.string .empty,.slice none 0 0]∧ai wr w1.heap.size 27 #[.int .i64 3,.int .i64 n,.int .i64 0,.string s,.slice A1 0 c1]∧Below w.heap.size w wr);case atStart=>exact⟨rfl,rfl,V1.out.alloc _,Z1.out.alloc _,ai.new w1 _ _,ab HB.out _⟩
 case round=>obtain⟨rfl,rfl,hV,hZ,hT,hbel⟩:=hrel;obtain⟨v0,v1,v2,v3,v4⟩:=hV.c5;have hv:=hV.lt;obtain⟨t0,t1,t2,t3,t4⟩:=hT.c5;have ht:=hT.lt;have HB0:=AJ (AH hZ hbel);clear hZ hT hbel hV;go_wp2_with fail;refine(oP n s A1 c1 _).mono ?_;rintro e w2 ⟨rfl,hb⟩;have Z2:=AJ (HB0.out.1.below hb);have HB2:=AJ (ak HB0.out.2 hb);clear hb v0 v1 v2 v3 v4 hv t0 t1 t2 t3 t4 ht;obtain⟨f0,f1,f2,f3,f4⟩:=Z2.out.f5;obtain⟨p0,p1,p2,p3,p4⟩:=Z2.out.c5;have hzz:=Z2.out.lt;unfold aW;go_wp2_with fail;refine bodyPost_ret (v:=.agg #[.int .i64 3,.int .i64 n,.int .i64 0,.string s,.slice none 0 0]) (by simp[results,Tryz.results282,go_sem, *]) rfl ?_;exact⟨rfl,cE HB2.out (by omega) _ _ _ _ _⟩
theorem oz(n:Int)(s:ByteArray)(A:Option Addr)(c:Nat)(w:World)(h0:0≤n)(h1:n≤3):Calls Tryz.prog 261 #[.agg #[.int .i64 3,.int .i64 n,.int .i64 0,.string s,.slice A 0 c]] w (bW w (.string (eK n))):=by
 have B0:=AJ (ab (ae w) (.cells #[.int .i64 3,.int .i64 n,.int .i64 0,.string s,.slice A 0 c] 27));go_enter Tryz.func261,Tryz.ntmps261;go_wp2_with fail;refine(mU n _ ⟨by omega,by omega⟩).mono ?_;rintro e w1 ⟨rfl,hb⟩;have HB:=AJ (ak B0.out hb);clear hb;go_wp2_with fail;go_ret;exact⟨rfl,HB.out⟩
theorem bN.int{v:aa}(h:bN v):bq v∧bulkVal v≤8:=by
 obtain⟨hx,hl,h⟩:=h;refine⟨?_,?_⟩
 ·unfold bq;rw[hx];rcases h with⟨hk,h0,h1,hs⟩|⟨hk,hn,hs,_⟩;·rw[hk,hs];exact⟨⟨by simp,by simp⟩,⟨by omega,by omega⟩,aT.zero,by simp⟩
  ·rw[hk,hn];exact⟨⟨by simp,by simp⟩,aT.zero,aT.zero,by unfold maxLen;omega⟩
 ·rw[av,hl];rcases h with⟨hk,h0,h1,hs⟩|⟨hk,hn,hs,_⟩;·rw[hs];simp[bulkVals]
  ·simp[bulkVals];omega
theorem mO(v:aa)(A:Option Addr)(c:Nat)(w:World)(h:bN v)(hx:SA w v.l A c):Calls Tryz.prog 247 #[.agg #[.int .i64 v.kind,.int .i64 v.n,.int .i64 v.x,.string v.s,.slice A v.l.length c]] w (yo w (fj v)):=by
 have hI:=h.int;have hok:=h.rJ;obtain⟨k,n,x,s,l⟩:=v;obtain⟨h2,h3,h4⟩:=h;simp only at h2 h3 h4 hx;subst h2 h3;have E:=AJ (AH hx (AH hI hok));clear hx hI hok;unfold fj;rcases h4 with⟨rfl,h0,h1,hs⟩|⟨rfl,hn,hs,_⟩
 ·have hs':s.size≤100:=by rw[hs];show 0≤100;omega
  have HS:=AJ (AH hs hs');clear hs hs';simp only[show((3:Int)=7)=False by simp,if_false];unfold iI;have B0:=AJ (ab (ab (ae w) (.cells #[.int .i64 3,.int .i64 n,.int .i64 0,.string s,.slice A 0 c] 27)) (.cells #[.int .i64 0,.int .i64 0,.int .i64 0,.string .empty,.slice none 0 0] 27));have V0:=AJ ((ai.new w 27 #[.int .i64 3,.int .i64 n,.int .i64 0,.string s,.slice A 0 c]).alloc (.cells #[.int .i64 0,.int .i64 0,.int .i64 0,.string .empty,.slice none 0 0] 27));have Z0:=AJ (ai.at (w:=w.alloc (.cells #[.int .i64 3,.int .i64 n,.int .i64 0,.string s,.slice A 0 c] 27)) (g:=w.heap.size+1) (t:=27) (cs:=#[.int .i64 0,.int .i64 0,.int .i64 0,.string .empty,.slice none 0 0]) (by simp));have HC:=AJ (jK ⟨3,n,0,s,[]⟩ A c _ (by have:=E.out.2.1.2;omega) E.out.2.1.1 (E.out.1.below B0.out));rw[E.out.2.2] at HC;go_enter Tryz.func247,Tryz.ntmps247;go_wp2_with fail;refine HC.out.mono ?_;rintro e w1 ⟨rfl,hb⟩;have V1:=AJ (V0.out.below hb);have Z1:=AJ (Z0.out.below hb);have HB1:=AJ (ak B0.out hb);clear hb;obtain⟨v0,v1,v2,v3,v4⟩:=V1.out.c5;have hv:=V1.out.lt;go_wp2_with fail;refine(oV n s A c _ h0 h1 HS.out.2).mono ?_;rintro e w2 ⟨rfl,hb⟩;have Z2:=AJ (Z1.out.below hb);have HB2:=AJ (ak HB1.out hb);clear hb v0 v1 v2 v3 v4 hv;unfold aW;go_wp2_with fail;refine(oz n s none 0 _ h0 h1).mono ?_;rintro e w3 ⟨rfl,hb⟩;have Z3:=AJ (Z2.out.below hb);have HB3:=AJ (ak HB2.out hb);clear hb;go_wp2_with fail;refine(iA (eK n) _).mono ?_;rintro e w4 ⟨rfl,hb⟩;have Z4:=AJ (Z3.out.below hb);have HB4:=AJ (ak HB3.out hb);clear hb;obtain⟨f0,f1,f2,f3,f4⟩:=Z4.out.f5;obtain⟨p0,p1,p2,p3,p4⟩:=Z4.out.c5;have hzz:=Z4.out.lt;unfold aW;go_wp2_with fail;refine bodyPost_ret (v:=.agg #[.int .i64 7,.int .i64 0,.int .i64 0,.string (eK n),.slice none 0 0]) (by simp[results,Tryz.results247,go_sem, *]) rfl ?_;exact⟨none,0,rfl,SB.nil _ _,cE HB4.out (by omega) _ _ _ _ _⟩
 ·subst hn;simp only[if_true];have B0:=AJ (ab (ab (ae w) (.cells #[.int .i64 7,.int .i64 0,.int .i64 0,.string s,.slice A 0 c] 27)) (.cells #[.int .i64 0,.int .i64 0,.int .i64 0,.string .empty,.slice none 0 0] 27));have Z0:=AJ (ai.at (w:=w.alloc (.cells #[.int .i64 7,.int .i64 0,.int .i64 0,.string s,.slice A 0 c] 27)) (g:=w.heap.size+1) (t:=27) (cs:=#[.int .i64 0,.int .i64 0,.int .i64 0,.string .empty,.slice none 0 0]) (by simp));go_enter Tryz.func247,Tryz.ntmps247;go_wp2_with fail;refine(jh ⟨7,0,0,s,[]⟩ A c _ (by have:=E.out.2.1.2;omega) E.out.2.1.1 (E.out.1.below B0.out)).mono ?_;rintro e w1 ⟨A1,c1,rfl,hsf,hb⟩;have Z1:=AJ (Z0.out.below hb);have HB:=AJ (AH (ak B0.out hb) hsf);clear hb hsf;obtain⟨f0,f1,f2,f3,f4⟩:=Z1.out.f5;obtain⟨p0,p1,p2,p3,p4⟩:=Z1.out.c5;have hzz:=Z1.out.lt;go_wp2_with fail;refine bodyPost_ret (v:=.agg #[.int .i64 7,.int .i64 0,.int .i64 0,.string s,.slice A1 0 c1]) (by simp[results,Tryz.results247,go_sem, *]) rfl ?_;refine⟨A1,c1,rfl,?_,cE HB.out.1 (by omega) _ _ _ _ _⟩;exact(SB.bE HB.out.2.sb (by simp) _ _ _ _ _).mono (by simp;omega)
end Go.Proofs.YtodpdjehjllhdaaGreatDoor
