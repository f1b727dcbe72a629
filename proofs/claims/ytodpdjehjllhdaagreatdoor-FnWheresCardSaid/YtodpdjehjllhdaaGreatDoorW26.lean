/- Part of a proof: contracts and plain laws. -/
import Derived.Test.YtodpdjehjllhdaaGreatDoorW25
set_option linter.unusedVariables false
set_option linter.unusedSimpArgs false
set_option maxRecDepth 100000
set_option maxHeartbeats 20000000
namespace Go.Proofs.YtodpdjehjllhdaaGreatDoor
open Go.RowKit
def gS(w:World):Prop:=ql w∧Lib.Utf8Tabs 0 1 w
theorem gS.below{w w':World}(h:gS w)(hb:Below w.heap.size w w'):gS w':=⟨h.1.below hb,Utf8Tabs_below h.2 hb⟩
theorem jd(s:ByteArray)(w:World)(hs:s.size≤1099511627776)(ht:gS w):Calls Tryz.prog 188 #[.string s] w (bW w (.bool (cd s))):=by
 have HC:=AJ (Tryz.utf8_ValidString s w (by omega) ht.2);clear ht;unfold cd;generalize Lib.validD s.data.toList=r at HC ⊢;go_enter Tryz.func188,Tryz.ntmps188;go_wp2_with fail;refine HC.out.mono ?_;rintro e w1 ⟨rfl,hb⟩;have HB:=AJ hb;clear hb;go_wp2_with fail;go_ret;exact⟨rfl,HB.out⟩
theorem vS(v:aa)(A:Option Addr)(c:Nat)(w:World)(hn:bulkVal v≤1048576)(hI:bq v)(ht:gS w):Calls Tryz.prog 130 #[.agg #[.int .i64 v.kind,.int .i64 v.n,.int .i64 v.x,.string v.s,.slice A v.l.length c]] w (bW w (.bool (af v))):=by
 obtain⟨k,n,x,s,l⟩:=v;dsimp only;have hn1:l.length≤1048576:=by rw[av,aC] at hn;dsimp only at hn;omega
 have hns:s.size≤1099511627776:=by rw[av] at hn;dsimp only at hn;omega
 clear hn;have HI:=AJ hI;clear hI;have HN:=AJ hns;clear hns;have HT:=AJ ht;clear ht;obtain⟨r,hr⟩: ∃r,r=af ⟨k,n,x,s,l⟩:=⟨_,rfl⟩;rw[←hr];have HR:=AJ hr;clear hr;have B0:=AJ (ab (ae w) (.cells #[.int .i64 k,.int .i64 n,.int .i64 x,.string s,.slice A l.length c] 27));have P0:=AJ (ai.new w 27 #[.int .i64 k,.int .i64 n,.int .i64 x,.string s,.slice A l.length c]);by_cases hkk:1≤k∧k≤11
 ·have hk11:k=1∨k=2∨k=3∨k=4∨k=5∨k=6∨k=7∨k=8∨k=9∨k=10∨k=11:=by omega
  clear hkk;rcases hk11 with rfl|rfl|rfl|rfl|rfl|rfl|rfl|rfl|rfl|rfl|rfl
  ·skip;by_cases hs:s=.empty
   ·have hse:=bp.2 hs;by_cases hx:x=0
    ·subst hx;by_cases hl:l=[]
     ·subst hl;by_cases hn:n=0
      ·subst hn;have hr0:r=true:=by rw[HR.out];simp[af,hs]
       subst hr0;clear hs;go_enter Tryz.func130,Tryz.ntmps130;go_wp2_with fail;go_ret;exact⟨rfl,B0.out⟩
      ·have hnb:(n==0)=false:=by simpa using hn
       have hr0:r=false:=by rw[HR.out];simp[af,hs,hn]
       subst hr0;clear hs;go_enter Tryz.func130,Tryz.ntmps130;go_wp2_with fail;go_ret;exact⟨rfl,B0.out⟩
     ·have hll:l.length≠0:=fun e=>hl (List.length_eq_zero_iff.1 e);have hr0:r=false:=by rw[HR.out];simp[af,hs,hl]
      subst hr0;clear hs hl;go_enter Tryz.func130,Tryz.ntmps130;go_wp2_with fail;go_ret;exact⟨rfl,B0.out⟩
    ·have hxb:(x==0)=false:=by simpa using hx
     have hr0:r=false:=by rw[HR.out];simp[af,hs,hx]
     subst hr0;clear hs;go_enter Tryz.func130,Tryz.ntmps130;go_wp2_with fail;go_ret;exact⟨rfl,B0.out⟩
   ·have hse:=bR hs;have hr0:r=false:=by rw[HR.out];simp[af,hs]
    subst hr0;clear hs;go_enter Tryz.func130,Tryz.ntmps130;go_wp2_with fail;go_ret;exact⟨rfl,B0.out⟩
  ·skip;by_cases hs:s=.empty
   ·have hse:=bp.2 hs;by_cases hx:x=0
    ·subst hx;by_cases hl:l=[]
     ·subst hl;by_cases h0:n=0
      ·subst h0;have hr0:r=true:=by rw[HR.out];simp[af,hs]
       subst hr0;clear hs;go_enter Tryz.func130,Tryz.ntmps130;go_wp2_with fail;go_ret;exact⟨rfl,B0.out⟩
      ·by_cases h1:n=1
       ·subst h1;have hr0:r=true:=by rw[HR.out];simp[af,hs]
        subst hr0;clear hs;go_enter Tryz.func130,Tryz.ntmps130;go_wp2_with fail;go_ret;exact⟨rfl,B0.out⟩
       ·have h01: ¬(0≤n∧n≤1):=by omega
        have h0b:(n==0)=false:=by simpa using h0
        have h1b:(n==1)=false:=by simpa using h1
        have hr0:r=false:=by rw[HR.out];simp[af,hs,h01]
        subst hr0;clear hs;go_enter Tryz.func130,Tryz.ntmps130;go_wp2_with fail;go_ret;exact⟨rfl,B0.out⟩
     ·have hll:l.length≠0:=fun e=>hl (List.length_eq_zero_iff.1 e);have hr0:r=false:=by rw[HR.out];simp[af,hs,hl]
      subst hr0;clear hs hl;go_enter Tryz.func130,Tryz.ntmps130;go_wp2_with fail;go_ret;exact⟨rfl,B0.out⟩
    ·have hxb:(x==0)=false:=by simpa using hx
     have hr0:r=false:=by rw[HR.out];simp[af,hs,hx]
     subst hr0;clear hs;go_enter Tryz.func130,Tryz.ntmps130;go_wp2_with fail;go_ret;exact⟨rfl,B0.out⟩
   ·have hse:=bR hs;have hr0:r=false:=by rw[HR.out];simp[af,hs]
    subst hr0;clear hs;go_enter Tryz.func130,Tryz.ntmps130;go_wp2_with fail;go_ret;exact⟨rfl,B0.out⟩
  ·skip;by_cases hs:s=.empty
   ·have hse:=bp.2 hs;by_cases hx:x=0
    ·subst hx;by_cases hl:l=[]
     ·subst hl;by_cases hi: -1000000000000000≤n∧n≤1000000000000000
      ·have hd:decide ((-1000000000000000:Int)≤n∧n≤1000000000000000)=true:=decide_eq_true hi;have hr0:r=true:=by rw[HR.out];simp[af,hs,hi]
       subst hr0;have HD:=AJ hd;clear hd;clear hs hi;go_enter Tryz.func130,Tryz.ntmps130;go_wp2_with fail;refine(bU _ _ _ _).mono ?_;rintro e w1 ⟨rfl,rfl⟩;rw[HD.out];go_wp2_with fail;go_ret;exact⟨rfl,B0.out⟩
      ·have hd:decide ((-1000000000000000:Int)≤n∧n≤1000000000000000)=false:=decide_eq_false hi;have hr0:r=false:=by rw[HR.out];simp[af,hs,hi]
       subst hr0;have HD:=AJ hd;clear hd;clear hs hi;go_enter Tryz.func130,Tryz.ntmps130;go_wp2_with fail;refine(bU _ _ _ _).mono ?_;rintro e w1 ⟨rfl,rfl⟩;rw[HD.out];go_wp2_with fail;go_ret;exact⟨rfl,B0.out⟩
     ·have hll:l.length≠0:=fun e=>hl (List.length_eq_zero_iff.1 e);have hr0:r=false:=by rw[HR.out];simp[af,hs,hl]
      subst hr0;clear hs hl;go_enter Tryz.func130,Tryz.ntmps130;go_wp2_with fail;go_ret;exact⟨rfl,B0.out⟩
    ·have hxb:(x==0)=false:=by simpa using hx
     have hr0:r=false:=by rw[HR.out];simp[af,hs,hx]
     subst hr0;clear hs;go_enter Tryz.func130,Tryz.ntmps130;go_wp2_with fail;go_ret;exact⟨rfl,B0.out⟩
   ·have hse:=bR hs;have hr0:r=false:=by rw[HR.out];simp[af,hs]
    subst hr0;clear hs;go_enter Tryz.func130,Tryz.ntmps130;go_wp2_with fail;go_ret;exact⟨rfl,B0.out⟩
  ·skip;by_cases hs:s=.empty
   ·have hse:=bp.2 hs;by_cases hl:l=[];·subst hl;cases hf:bh n x with|true=>(have hr0:r=true:=by rw[HR.out];simp[af,hs,hf]);subst hr0;have HF:=AJ hf;clear hf;clear hs;go_enter Tryz.func130,Tryz.ntmps130;go_wp2_with fail;refine(dW n x _ HI.out.2.1).mono ?_;rintro e w1 ⟨rfl,hb1⟩;rw[HF.out];have P11:=AJ (P0.out.below hb1);have B11:=AJ (ak B0.out hb1);clear hb1;obtain⟨q10,q11,q12,q13,q14⟩:=P11.out.c5;go_wp2_with fail;go_ret;exact⟨rfl,B11.out⟩|false=>(have hr0:r=false:=by rw[HR.out];simp[af,hs,hf]);subst hr0;have HF:=AJ hf;clear hf;clear hs;go_enter Tryz.func130,Tryz.ntmps130;go_wp2_with fail;refine(dW n x _ HI.out.2.1).mono ?_;rintro e w1 ⟨rfl,hb1⟩;rw[HF.out];have P11:=AJ (P0.out.below hb1);have B11:=AJ (ak B0.out hb1);clear hb1;obtain⟨q10,q11,q12,q13,q14⟩:=P11.out.c5;go_wp2_with fail;go_ret;exact⟨rfl,B11.out⟩
    ·have hll:l.length≠0:=fun e=>hl (List.length_eq_zero_iff.1 e);have hr0:r=false:=by rw[HR.out];simp[af,hs,hl]
     subst hr0;clear hs hl;go_enter Tryz.func130,Tryz.ntmps130;go_wp2_with fail;go_ret;exact⟨rfl,B0.out⟩
   ·have hse:=bR hs;have hr0:r=false:=by rw[HR.out];simp[af,hs]
    subst hr0;clear hs;go_enter Tryz.func130,Tryz.ntmps130;go_wp2_with fail;go_ret;exact⟨rfl,B0.out⟩
  ·skip;by_cases hs:s=.empty
   ·have hse:=bp.2 hs;by_cases hx:x=0
    ·subst hx;by_cases hl:l=[]
     ·subst hl;by_cases hi:0≤n∧n≤2
      ·have hd:decide ((0:Int)≤n∧n≤2)=true:=decide_eq_true hi;have hr0:r=true:=by rw[HR.out];simp[af,hs,hi]
       subst hr0;have HD:=AJ hd;clear hd;clear hs hi;go_enter Tryz.func130,Tryz.ntmps130;go_wp2_with fail;refine(bU _ _ _ _).mono ?_;rintro e w1 ⟨rfl,rfl⟩;rw[HD.out];go_wp2_with fail;go_ret;exact⟨rfl,B0.out⟩
      ·have hd:decide ((0:Int)≤n∧n≤2)=false:=decide_eq_false hi;have hr0:r=false:=by rw[HR.out];simp[af,hs,hi]
       subst hr0;have HD:=AJ hd;clear hd;clear hs hi;go_enter Tryz.func130,Tryz.ntmps130;go_wp2_with fail;refine(bU _ _ _ _).mono ?_;rintro e w1 ⟨rfl,rfl⟩;rw[HD.out];go_wp2_with fail;go_ret;exact⟨rfl,B0.out⟩
     ·have hll:l.length≠0:=fun e=>hl (List.length_eq_zero_iff.1 e);have hr0:r=false:=by rw[HR.out];simp[af,hs,hl]
      subst hr0;clear hs hl;go_enter Tryz.func130,Tryz.ntmps130;go_wp2_with fail;go_ret;exact⟨rfl,B0.out⟩
    ·have hxb:(x==0)=false:=by simpa using hx
     have hr0:r=false:=by rw[HR.out];simp[af,hs,hx]
     subst hr0;clear hs;go_enter Tryz.func130,Tryz.ntmps130;go_wp2_with fail;go_ret;exact⟨rfl,B0.out⟩
   ·have hse:=bR hs;have hr0:r=false:=by rw[HR.out];simp[af,hs]
    subst hr0;clear hs;go_enter Tryz.func130,Tryz.ntmps130;go_wp2_with fail;go_ret;exact⟨rfl,B0.out⟩
  ·skip;by_cases hs:s=.empty
   ·have hse:=bp.2 hs;by_cases hl:l=[]
    ·subst hl;by_cases hx:x<0;·skip;cases hf:aV n x with|true=>(have hr0:r=true:=by rw[HR.out];simp[af,hs,hx,hf]);subst hr0;have HF:=AJ hf;clear hf;clear hs;go_enter Tryz.func130,Tryz.ntmps130;go_wp2_with fail;refine(eW n x _ HI.out.2.1 (HT.out.1.below B0.out)).mono ?_;rintro e w1 ⟨rfl,hb1⟩;rw[HF.out];have P11:=AJ (P0.out.below hb1);have B11:=AJ (ak B0.out hb1);clear hb1;obtain⟨q10,q11,q12,q13,q14⟩:=P11.out.c5;go_wp2_with fail;go_ret;exact⟨rfl,B11.out⟩|false=>(have hr0:r=false:=by rw[HR.out];simp[af,hs,hx,hf]);subst hr0;have HF:=AJ hf;clear hf;clear hs;go_enter Tryz.func130,Tryz.ntmps130;go_wp2_with fail;refine(eW n x _ HI.out.2.1 (HT.out.1.below B0.out)).mono ?_;rintro e w1 ⟨rfl,hb1⟩;rw[HF.out];have P11:=AJ (P0.out.below hb1);have B11:=AJ (ak B0.out hb1);clear hb1;obtain⟨q10,q11,q12,q13,q14⟩:=P11.out.c5;go_wp2_with fail;go_ret;exact⟨rfl,B11.out⟩
     ·skip;have hr0:r=false:=by rw[HR.out];simp[af,hs,hx]
      subst hr0;clear hs;go_enter Tryz.func130,Tryz.ntmps130;go_wp2_with fail;go_ret;exact⟨rfl,B0.out⟩
    ·have hll:l.length≠0:=fun e=>hl (List.length_eq_zero_iff.1 e);have hr0:r=false:=by rw[HR.out];simp[af,hs,hl]
     subst hr0;clear hs hl;go_enter Tryz.func130,Tryz.ntmps130;go_wp2_with fail;go_ret;exact⟨rfl,B0.out⟩
   ·have hse:=bR hs;have hr0:r=false:=by rw[HR.out];simp[af,hs]
    subst hr0;clear hs;go_enter Tryz.func130,Tryz.ntmps130;go_wp2_with fail;go_ret;exact⟨rfl,B0.out⟩
  ·skip;by_cases hx:x=0
   ·subst hx;by_cases hl:l=[]
    ·subst hl;by_cases hn:n=0;·subst hn;cases hf:cd s with|true=>(have hr0:r=true:=by rw[HR.out];simp[af,hf]);subst hr0;have HF:=AJ hf;clear hf;go_enter Tryz.func130,Tryz.ntmps130;go_wp2_with fail;refine(jd s _ HN.out (HT.out.below B0.out)).mono ?_;rintro e w1 ⟨rfl,hb1⟩;rw[HF.out];have P11:=AJ (P0.out.below hb1);have B11:=AJ (ak B0.out hb1);clear hb1;obtain⟨q10,q11,q12,q13,q14⟩:=P11.out.c5;go_wp2_with fail;go_ret;exact⟨rfl,B11.out⟩|false=>(have hr0:r=false:=by rw[HR.out];simp[af,hf]);subst hr0;have HF:=AJ hf;clear hf;go_enter Tryz.func130,Tryz.ntmps130;go_wp2_with fail;refine(jd s _ HN.out (HT.out.below B0.out)).mono ?_;rintro e w1 ⟨rfl,hb1⟩;rw[HF.out];have P11:=AJ (P0.out.below hb1);have B11:=AJ (ak B0.out hb1);clear hb1;obtain⟨q10,q11,q12,q13,q14⟩:=P11.out.c5;go_wp2_with fail;go_ret;exact⟨rfl,B11.out⟩
     ·have hnb:(n==0)=false:=by simpa using hn
      have hr0:r=false:=by rw[HR.out];simp[af,hn]
      subst hr0;go_enter Tryz.func130,Tryz.ntmps130;go_wp2_with fail;go_ret;exact⟨rfl,B0.out⟩
    ·have hll:l.length≠0:=fun e=>hl (List.length_eq_zero_iff.1 e);have hr0:r=false:=by rw[HR.out];simp[af,hl]
     subst hr0;clear hl;go_enter Tryz.func130,Tryz.ntmps130;go_wp2_with fail;go_ret;exact⟨rfl,B0.out⟩
   ·have hxb:(x==0)=false:=by simpa using hx
    have hr0:r=false:=by rw[HR.out];simp[af,hx]
    subst hr0;go_enter Tryz.func130,Tryz.ntmps130;go_wp2_with fail;go_ret;exact⟨rfl,B0.out⟩
  ·skip;by_cases hx:x=0
   ·subst hx;by_cases hl:l=[]
    ·subst hl;by_cases hn:n=0
     ·subst hn;have hr0:r=true:=by rw[HR.out];simp[af]
      subst hr0;go_enter Tryz.func130,Tryz.ntmps130;go_wp2_with fail;go_ret;exact⟨rfl,B0.out⟩
     ·have hnb:(n==0)=false:=by simpa using hn
      have hr0:r=false:=by rw[HR.out];simp[af,hn]
      subst hr0;go_enter Tryz.func130,Tryz.ntmps130;go_wp2_with fail;go_ret;exact⟨rfl,B0.out⟩
    ·have hll:l.length≠0:=fun e=>hl (List.length_eq_zero_iff.1 e);have hr0:r=false:=by rw[HR.out];simp[af,hl]
     subst hr0;clear hl;go_enter Tryz.func130,Tryz.ntmps130;go_wp2_with fail;go_ret;exact⟨rfl,B0.out⟩
   ·have hxb:(x==0)=false:=by simpa using hx
    have hr0:r=false:=by rw[HR.out];simp[af,hx]
    subst hr0;go_enter Tryz.func130,Tryz.ntmps130;go_wp2_with fail;go_ret;exact⟨rfl,B0.out⟩
  ·skip;by_cases hs:s=.empty
   ·have hse:=bp.2 hs;by_cases hx:x=0
    ·subst hx;by_cases hn:n=0
     ·subst hn;have hr0:r=true:=by rw[HR.out];simp[af,hs]
      subst hr0;clear hs;go_enter Tryz.func130,Tryz.ntmps130;go_wp2_with fail;go_ret;exact⟨rfl,B0.out⟩
     ·have hnb:(n==0)=false:=by simpa using hn
      have hr0:r=false:=by rw[HR.out];simp[af,hs,hn]
      subst hr0;clear hs;go_enter Tryz.func130,Tryz.ntmps130;go_wp2_with fail;go_ret;exact⟨rfl,B0.out⟩
    ·have hxb:(x==0)=false:=by simpa using hx
     have hr0:r=false:=by rw[HR.out];simp[af,hs,hx]
     subst hr0;clear hs;go_enter Tryz.func130,Tryz.ntmps130;go_wp2_with fail;go_ret;exact⟨rfl,B0.out⟩
   ·have hse:=bR hs;have hr0:r=false:=by rw[HR.out];simp[af,hs]
    subst hr0;clear hs;go_enter Tryz.func130,Tryz.ntmps130;go_wp2_with fail;go_ret;exact⟨rfl,B0.out⟩
  ·skip;by_cases hs:s=.empty
   ·have hse:=bp.2 hs;by_cases hx:x=0
    ·subst hx;by_cases hn:n=0
     ·subst hn;by_cases hl:l.length%2=0
      ·have hle:((l.length:Int)%2==0)=true:=by simp;omega
       have hr0:r=true:=by rw[HR.out];simp[af,hs,hl]
       subst hr0;clear hs;go_enter Tryz.func130,Tryz.ntmps130;go_wp2_with fail;go_ret;exact⟨rfl,B0.out⟩
      ·have hle:((l.length:Int)%2==0)=false:=by simp;omega
       have hr0:r=false:=by rw[HR.out];simp[af,hs,hl]
       subst hr0;clear hs;go_enter Tryz.func130,Tryz.ntmps130;go_wp2_with fail;go_ret;exact⟨rfl,B0.out⟩
     ·have hnb:(n==0)=false:=by simpa using hn
      have hr0:r=false:=by rw[HR.out];simp[af,hs,hn]
      subst hr0;clear hs;go_enter Tryz.func130,Tryz.ntmps130;go_wp2_with fail;go_ret;exact⟨rfl,B0.out⟩
    ·have hxb:(x==0)=false:=by simpa using hx
     have hr0:r=false:=by rw[HR.out];simp[af,hs,hx]
     subst hr0;clear hs;go_enter Tryz.func130,Tryz.ntmps130;go_wp2_with fail;go_ret;exact⟨rfl,B0.out⟩
   ·have hse:=bR hs;have hr0:r=false:=by rw[HR.out];simp[af,hs]
    subst hr0;clear hs;go_enter Tryz.func130,Tryz.ntmps130;go_wp2_with fail;go_ret;exact⟨rfl,B0.out⟩
  ·skip;by_cases hs:s=.empty
   ·have hse:=bp.2 hs;by_cases hx:x=0
    ·subst hx;by_cases hi:0≤n∧n≤1000000000000000
     ·have hd:decide ((0:Int)≤n∧n≤1000000000000000)=true:=decide_eq_true hi;by_cases hl:l.length=1
      ·have hle:((l.length:Int)==1)=true:=by simp;omega
       have hr0:r=true:=by rw[HR.out];simp[af,hs,hi,hl]
       subst hr0;have HD:=AJ hd;clear hd;clear hs hi hl;go_enter Tryz.func130,Tryz.ntmps130;go_wp2_with fail;refine(bU _ _ _ _).mono ?_;rintro e w1 ⟨rfl,rfl⟩;rw[HD.out];go_wp2_with fail;go_ret;exact⟨rfl,B0.out⟩
      ·have hle:((l.length:Int)==1)=false:=by simp;omega
       have hr0:r=false:=by rw[HR.out];simp[af,hs,hi,hl]
       subst hr0;have HD:=AJ hd;clear hd;clear hs hi;go_enter Tryz.func130,Tryz.ntmps130;go_wp2_with fail;refine(bU _ _ _ _).mono ?_;rintro e w1 ⟨rfl,rfl⟩;rw[HD.out];go_wp2_with fail;go_ret;exact⟨rfl,B0.out⟩
     ·have hd:decide ((0:Int)≤n∧n≤1000000000000000)=false:=decide_eq_false hi;have hr0:r=false:=by rw[HR.out];simp[af,hs,hi]
      subst hr0;have HD:=AJ hd;clear hd;clear hs hi;go_enter Tryz.func130,Tryz.ntmps130;go_wp2_with fail;refine(bU _ _ _ _).mono ?_;rintro e w1 ⟨rfl,rfl⟩;rw[HD.out];go_wp2_with fail;go_ret;exact⟨rfl,B0.out⟩
    ·have hxb:(x==0)=false:=by simpa using hx
     have hr0:r=false:=by rw[HR.out];simp[af,hs,hx]
     subst hr0;clear hs;go_enter Tryz.func130,Tryz.ntmps130;go_wp2_with fail;go_ret;exact⟨rfl,B0.out⟩
   ·have hse:=bR hs;have hr0:r=false:=by rw[HR.out];simp[af,hs]
    subst hr0;clear hs;go_enter Tryz.func130,Tryz.ntmps130;go_wp2_with fail;go_ret;exact⟨rfl,B0.out⟩
 ·have hk1:k≠1∧k≠2∧k≠3∧k≠4∧k≠5∧k≠6∧k≠7∧k≠8∧k≠9∧k≠10∧k≠11:=by omega
  have hr0:r=false:=by rw[HR.out];simp[af,hk1]
  clear hkk;obtain⟨k1,k2,k3,k4,k5,k6,k7,k8,k9,k10,k11⟩:=hk1;subst hr0;by_cases hs:s.toList.isEmpty=true;all_goals by_cases hx:x=0
  all_goals try subst hx
  all_goals by_cases hkl:k<9∧0<l.length
  all_goals
   go_enter Tryz.func130,Tryz.ntmps130;go_wp2_with fail;all_goals go_ret
   all_goals exact⟨rfl,B0.out⟩
theorem Kept.vd{w w':World}(h:Kept [] w w'):Below w.heap.size w w':=⟨h.1,h.2.1,h.2.2.1,h.2.2.2.1,fun b hb=>h.2.2.2.2 b hb (by simp)⟩
def wv(base:Nat)(_:Unit)(own:List Nat)(w:World):Prop:=own=[]∧base≤w.heap.size∧gS w
theorem Af(base:Nat):Cb vx (wv base) (·<base) 130 #[] (fun _=>0):=by
 have hcall: ∀s own w(x:aa) A c,wv base s own w→SS w (·<base) x.l A c→bq x→bulkVal x≤1048576→(fun _=>0:Unit→Nat) s≤4194304→Calls Tryz.prog 130 (#[.agg #[.int .i64 x.kind,.int .i64 x.n,.int .i64 x.x,.string x.s,.slice A x.l.length c]]++#[]) w (nc (wv base) own w (vx s x).1 (.bool (vx s x).2)):=by intro s own w x A c h hs hv hn _;refine(vS x A c w hn hv h.2.2).mono ?_;rintro e w' ⟨rfl,hb⟩;refine⟨rfl,[],⟨rfl,Nat.le_trans h.2.1 hb.size,h.2.2.below hb⟩,by simp,?_⟩;rw[h.1];exact Kept.aA hb
 exact{al:=fun s own w w' h hb=>⟨h.1,Nat.le_trans h.2.1 hb.size,h.2.2.below hb⟩,apart:=fun s own w h b hb=>⟨Nat.lt_of_lt_of_le hb h.2.1,by rw[h.1];simp⟩,lt:=fun s own w h b hb=>by rw[h.1] at hb;exact absurd hb (by simp),call:=hcall,bud:=fun _ _=>by simp,enter:=fun a w=>by kernel_rfl}
theorem fe(v:aa)(A:Option Addr)(c:Nat)(w:World)(ht:gS w)(hn:bulkVal v≤1048576)(hI:bq v)(hx:SA w v.l A c):Calls Tryz.prog 73 #[.agg #[.int .i64 v.kind,.int .i64 v.n,.int .i64 v.x,.string v.s,.slice A v.l.length c]] w (bW w (.bool (valOkP v))):=by
 have B0:=AJ (ab (ae w) (.cells #[.int .i64 v.kind,.int .i64 v.n,.int .i64 v.x,.string v.s,.slice A v.l.length c] 27));have hC:=uZ (Af w.heap.size) v () [] A c (w.alloc (.cells #[.int .i64 v.kind,.int .i64 v.n,.int .i64 v.x,.string v.s,.slice A v.l.length c] 27)) ⟨rfl,by simp,ht.below B0.out⟩ (SS.al hx (fun b hb=>B0.out.block b hb) (fun b hb=>hb)) hI hn (by simp only;omega);rw[evG_ok] at hC;have HC:=AJ hC;clear hC hx ht;go_enter Tryz.func73,Tryz.ntmps73;go_wp2_with fail;refine HC.out.mono ?_;rintro e w1 ⟨rfl,own',h1,h2,h3⟩;have h1':=h1.1;have HB:=AJ (ak B0.out h3.vd);clear h1 h2 h3 h1';go_wp2_with fail;go_ret;exact⟨rfl,HB.out⟩
theorem wA(A:Option Addr)(c:Nat)(f:Value)(w:World):Calls Tryz.prog 241 #[.slice A 0 c,f] w (bW w (.int .i64 (-1))):=by
 go_enter Tryz.func241,Tryz.ntmps241;go_wp2_with fail;go_loopg[8] 0 (fun gk i wr=>i=.int .i64 0∧gk=0∧wr=w);case atStart=>exact⟨rfl,rfl,rfl⟩
 case round=>obtain⟨rfl,rfl,rfl⟩:=hrel;go_wp2_with fail;go_ret;exact⟨rfl,ae _⟩
theorem pf(A:Option Addr)(c:Nat)(f:Value)(w:World):Calls Tryz.prog 186 #[.slice A 0 c,f] w (bW w (.bool false)):=by
 go_enter Tryz.func186,Tryz.ntmps186;go_wp2_with fail;refine(wA A c f _).mono ?_;rintro e w1 ⟨rfl,hb⟩;have HB:=AJ hb;clear hb;go_wp2_with fail;go_ret;exact⟨rfl,HB.out⟩
theorem vy(n:Int)(s:ByteArray)(A:Option Addr)(c:Nat)(w:World):Calls Tryz.prog 168 #[.agg #[.int .i64 3,.int .i64 n,.int .i64 0,.string s,.slice A 0 c]] w (bW w (.bool true)):=by
 have B0:=AJ (ab (ae w) (.cells #[.int .i64 3,.int .i64 n,.int .i64 0,.string s,.slice A 0 c] 27));go_enter Tryz.func168,Tryz.ntmps168;go_wp2_with fail;go_ret;exact⟨rfl,B0.out⟩
theorem ud(n:Int)(s:ByteArray)(A:Option Addr)(c:Nat)(w:World)(hcf: ∀(a:Array Value)(w:World),(callFunc 168 a).run Tryz.prog w=.ok (.enter 168 a) w):Calls Tryz.prog 129 #[.agg #[.int .i64 3,.int .i64 n,.int .i64 0,.string s,.slice A 0 c],.func (.func 168) #[] #[]] w (bW w (.bool true)):=by
 have B0:=AJ (ab (ab (ae w) (.cells #[.int .i64 3,.int .i64 n,.int .i64 0,.string s,.slice A 0 c] 27)) (.cells #[.func (.func 168) #[] #[]] 74));have P0:=AJ ((ai.new w 27 #[.int .i64 3,.int .i64 n,.int .i64 0,.string s,.slice A 0 c]).alloc (.cells #[.func (.func 168) #[] #[]] 74));go_enter Tryz.func129,Tryz.ntmps129;go_wp2_with fail;refine(vy n s A c _).mono ?_;rintro e w1 ⟨rfl,hb⟩;have P1:=AJ (P0.out.below hb);have HB:=AJ (ak B0.out hb);clear hb;obtain⟨p0,p1,p2,p3,p4⟩:=P1.out.c5;have hz:=P1.out.lt;go_wp2_with fail;refine(pf A c _ _).mono ?_;rintro e w2 ⟨rfl,hb⟩;have HB2:=AJ (ak HB.out hb);clear hb;go_wp2_with fail;go_ret;exact⟨rfl,HB2.out⟩
theorem wU{n:Int}{s:ByteArray}(h0:0≤n)(h1:n≤3)(hs:s=.empty):bN ⟨3,n,0,s,[]⟩:=⟨rfl,rfl,.inl ⟨rfl,h0,h1,hs⟩⟩
theorem oT(n:Int)(s:ByteArray)(A:Option Addr)(c:Nat)(w:World)(ht:gS w)(h0:0≤n)(h1:n≤3)(hs:s=.empty)(hx:SA w ([]:List aa) A c):Calls Tryz.prog 112 #[.agg #[.int .i64 3,.int .i64 n,.int .i64 0,.string s,.slice A 0 c]] w (bW w (.bool true)):=by
 have hN:=wU h0 h1 hs;have B0:=AJ (ab (ae w) (.cells #[.int .i64 3,.int .i64 n,.int .i64 0,.string s,.slice A 0 c] 27));have P0:=AJ (ai.new w 27 #[.int .i64 3,.int .i64 n,.int .i64 0,.string s,.slice A 0 c]);have HC:=AJ (fe ⟨3,n,0,s,[]⟩ A c _ (ht.below B0.out) (by have:=hN.int.2;omega) hN.int.1 (hx.below B0.out));rw[hN.rJ] at HC;have HE:=AJ (fun w=>ud n s A c w (fun a w=>by kernel_rfl));clear hN ht hx hs;go_enter Tryz.func112,Tryz.ntmps112;go_wp2_with fail;refine HC.out.mono ?_;rintro e w1 ⟨rfl,hb⟩;have P1:=AJ (P0.out.below hb);have HB:=AJ (ak B0.out hb);clear hb;obtain⟨p0,p1,p2,p3,p4⟩:=P1.out.c5;have hz:=P1.out.lt;go_wp2_with fail;refine(HE.out _).mono ?_;rintro e w2 ⟨rfl,hb⟩;have HB2:=AJ (ak HB.out hb);clear hb;go_wp2_with fail;go_ret;exact⟨rfl,HB2.out⟩
theorem oY(n:Int)(s:ByteArray)(A:Option Addr)(c:Nat)(w:World)(ht:ql w)(h0:0≤n)(h1:n≤3):Calls Tryz.prog 257 #[.agg #[.int .i64 3,.int .i64 n,.int .i64 0,.string s,.slice A 0 c]] w (bW w (.string (eK n))):=by
 have B0:=AJ (ab (ae w) (.cells #[.int .i64 3,.int .i64 n,.int .i64 0,.string s,.slice A 0 c] 27));have HT:=AJ (ht.below B0.out);clear ht;go_enter Tryz.func257,Tryz.ntmps257;go_wp2_with fail;refine(ix n _ ⟨by omega,by omega⟩ HT.out).mono ?_;rintro e w1 ⟨rfl,hb⟩;have HB:=AJ (ak B0.out hb);clear hb;go_wp2_with fail;go_ret;exact⟨rfl,HB.out⟩
theorem mT(n:Int)(s:ByteArray)(A:Option Addr)(c:Nat)(w:World)(ht:ql w)(h0:0≤n)(h1:n≤3)(hcf: ∀(a:Array Value)(w:World),(callFunc 257 a).run Tryz.prog w=.ok (.enter 257 a) w):Calls Tryz.prog 256 #[.slice none 0 0,.agg #[.int .i64 3,.int .i64 n,.int .i64 0,.string s,.slice A 0 c],.func (.func 257) #[] #[]] w (fun e w'=> ∃v,e=.returned v∧ay w' w.heap.size 5 v (eK n).data.toList∧Below w.heap.size w w'):=by
 have B0:=AJ (ab (ae w) (.cells #[.int .i64 3,.int .i64 n,.int .i64 0,.string s,.slice A 0 c] 27));have HT:=AJ (ht.below B0.out);clear ht;have hsz:(eK n).size≤8:=by rw[jR h0 (by omega),lx];simp
 go_enter Tryz.func256,Tryz.ntmps256;go_wp2_with fail;refine(oY n s A c _ HT.out h0 h1).mono ?_;rintro e w1 ⟨rfl,hb⟩;have HB:=AJ (ak B0.out hb);clear hb;have hz:=HB.out.size;go_wp2_with(at_builtin;(refine pC rfl _ _ 22 9 rfl (v:=.slice none 0 0) (u:=.string (eK n)) rfl rfl (gd (P:=Tryz.prog) 22 9 _ w.heap.size 5 Tryz.underlying22 Tryz.underlying9 dL _ [] (eK n) (ay.nz _ _ _) (by simp;omega) hz) ?_;rintro v3 w3 ⟨ho,hbl⟩;rw[List.nil_append] at ho;have HO3:=AJ (AH ho (HB.out.trans hbl));clear ho hbl));go_ret;exact⟨v3,rfl,HO3.out.1,HO3.out.2⟩
theorem og(n:Int)(s:ByteArray)(A:Option Addr)(c:Nat)(w:World)(ht:gS w)(h0:0≤n)(h1:n≤3)(hs:s=.empty)(hx:SA w ([]:List aa) A c):Calls Tryz.prog 218 #[.agg #[.int .i64 3,.int .i64 n,.int .i64 0,.string s,.slice A 0 c]] w (bW w (.string (eK n))):=by
 have B0:=AJ (ab (ae w) (.cells #[.int .i64 3,.int .i64 n,.int .i64 0,.string s,.slice A 0 c] 27));have P0:=AJ (ai.new w 27 #[.int .i64 3,.int .i64 n,.int .i64 0,.string s,.slice A 0 c]);have HC:=AJ (oT n s A c _ (ht.below B0.out) h0 h1 hs (hx.below B0.out));have HA:=AJ (fun w (h:ql w)=>mT n s A c w h h0 h1 (fun a w=>by kernel_rfl));have HT:=AJ (ht.below B0.out);clear ht hs hx;obtain⟨L,hL⟩: ∃L,L=(eK n).data.toList:=⟨_,rfl⟩;have hns:strOf L=eK n:=by rw[hL];unfold eK;rw[oD]
 have HN:=AJ (AH hns hL);clear hns hL;go_enter Tryz.func218,Tryz.ntmps218;go_wp2_with fail;refine HC.out.mono ?_;rintro e w1 ⟨rfl,hb⟩;have P1:=AJ (P0.out.below hb);have HB:=AJ (AH (ak B0.out hb) (HT.out.below hb));clear hb;obtain⟨p0,p1,p2,p3,p4⟩:=P1.out.c5;have hz:=P1.out.lt;go_wp2_with fail;refine(HA.out _ HB.out.2.1).mono ?_;rintro e w2 ⟨v2,rfl,ho,hb⟩;rw[←HN.out.2] at ho;obtain⟨A2,c2,rfl⟩:=ho.form;have hcv:=bc (P:=Tryz.prog) (src:=22) (dst:=9) Tryz.underlying22 Tryz.underlying5 Tryz.underlying9 ho.sf.2.sa;rw[HN.out.1] at hcv;have HB2:=AJ (ak HB.out.1 hb);clear hb ho;go_wp2_with fail;go_ret;exact⟨rfl,HB2.out⟩
theorem tq(n:Int)(s:ByteArray)(A:Option Addr)(c:Nat)(w:World)(ht:ql w)(h0:0≤n)(h1:n≤3)(hs:s.size≤100)(hx:SA w ([]:List aa) A c):Calls Tryz.prog 245 #[.agg #[.int .i64 3,.int .i64 n,.int .i64 0,.string s,.slice A 0 c]] w (yo w ⟨3,n,0,s,[]⟩):=by
 have B0:=AJ (ab (ab (ae w) (.cells #[.int .i64 3,.int .i64 n,.int .i64 0,.string s,.slice A 0 c] 27)) (.cells #[.int .i64 0,.int .i64 0,.int .i64 0,.string .empty,.slice none 0 0] 27));have Z0:=AJ (ai.at (w:=w.alloc (.cells #[.int .i64 3,.int .i64 n,.int .i64 0,.string s,.slice A 0 c] 27)) (g:=w.heap.size+1) (t:=27) (cs:=#[.int .i64 0,.int .i64 0,.int .i64 0,.string .empty,.slice none 0 0]) (by simp));have hI:bq ⟨3,n,0,s,[]⟩:=⟨⟨by simp,by simp⟩,⟨by show _≤n;omega,by show n≤_;omega⟩,aT.zero,by show s.size≤_;unfold maxLen;omega⟩;have HC:=AJ (ik 1 (by omega) ⟨3,n,0,s,[]⟩ A c _ (ht.below B0.out) hI rfl ⟨fun _=>by simp[aV];omega,by simp,by simp,by show s.size≤_;omega⟩ (hx.below B0.out));rw[mq] at HC;clear hI ht hx;go_enter Tryz.func245,Tryz.ntmps245;go_wp2_with fail;refine HC.out.mono ?_;rintro e w1 ⟨A1,c1,rfl,hsb,hb⟩;unfold eT;simp only[List.length_nil];have Z1:=AJ (Z0.out.below hb);have HB:=AJ (AH (ak B0.out hb) hsb);clear hb hsb;obtain⟨f0,f1,f2,f3,f4⟩:=Z1.out.f5;obtain⟨p0,p1,p2,p3,p4⟩:=Z1.out.c5;have hzz:=Z1.out.lt;have n1:w.heap.size+1≠w1.heap.size:=by omega
 have n1':w1.heap.size≠w.heap.size+1:=by omega
 go_wp2_with fail;refine bodyPost_ret (v:=.agg #[.int .i64 3,.int .i64 n,.int .i64 0,.string s,.slice A1 0 c1]) (by simp[results,Tryz.results245,go_sem, *]) rfl ?_;refine⟨A1,c1,rfl,?_,ab (cE HB.out.1 (by omega) _ _ _ _ _) _⟩;exact((SB.bE HB.out.2 (by simp) _ _ _ _ _).below (ab (ae _) _)).mono (by simp;omega)
theorem mK(v:aa)(A:Option Addr)(c:Nat)(w:World)(ht:gS w)(h:bN v)(hx:SA w v.l A c):Calls Tryz.prog 197 #[.agg #[.int .i64 v.kind,.int .i64 v.n,.int .i64 v.x,.string v.s,.slice A v.l.length c]] w (yo w (fj v)):=by
 have hI:=h.int;have hok:=h.rJ;obtain⟨k,n,x,s,l⟩:=v;obtain⟨h2,h3,h4⟩:=h;simp only at h2 h3 h4 hx;subst h2 h3;have E:=AJ (AH hx (AH hI hok));clear hx hI hok;have HT:=AJ ht;clear ht;unfold fj;rcases h4 with⟨rfl,h0,h1,hs⟩|⟨rfl,hn,hs,_⟩
 ·have hs':s.size≤100:=by rw[hs];show 0≤100;omega
  have HS:=AJ (AH hs hs');clear hs hs';simp only[show((3:Int)=7)=False by simp,if_false];unfold iI;have B0:=AJ (ab (ab (ae w) (.cells #[.int .i64 3,.int .i64 n,.int .i64 0,.string s,.slice A 0 c] 27)) (.cells #[.int .i64 0,.int .i64 0,.int .i64 0,.string .empty,.slice none 0 0] 27));have V0:=AJ ((ai.new w 27 #[.int .i64 3,.int .i64 n,.int .i64 0,.string s,.slice A 0 c]).alloc (.cells #[.int .i64 0,.int .i64 0,.int .i64 0,.string .empty,.slice none 0 0] 27));have Z0:=AJ (ai.at (w:=w.alloc (.cells #[.int .i64 3,.int .i64 n,.int .i64 0,.string s,.slice A 0 c] 27)) (g:=w.heap.size+1) (t:=27) (cs:=#[.int .i64 0,.int .i64 0,.int .i64 0,.string .empty,.slice none 0 0]) (by simp));have HC:=AJ (fe ⟨3,n,0,s,[]⟩ A c _ (HT.out.below B0.out) (by have:=E.out.2.1.2;omega) E.out.2.1.1 (E.out.1.below B0.out));rw[E.out.2.2] at HC;go_enter Tryz.func197,Tryz.ntmps197;go_wp2_with fail;refine HC.out.mono ?_;rintro e w1 ⟨rfl,hb⟩;have V1:=AJ (V0.out.below hb);have Z1:=AJ (Z0.out.below hb);have HB1:=AJ (ak B0.out hb);clear hb;obtain⟨v0,v1,v2,v3,v4⟩:=V1.out.c5;have hv:=V1.out.lt;go_wp2_with fail;refine(tq n s A c _ (HT.out.below HB1.out).1 h0 h1 HS.out.2 (E.out.1.below HB1.out)).mono ?_;rintro e w2 ⟨A2,c2,rfl,hsb,hb⟩;unfold eT;simp only[List.length_nil];have Z2:=AJ (Z1.out.below hb);have HB2:=AJ (AH (ak HB1.out hb) hsb);clear hb hsb v0 v1 v2 v3 v4 hv;go_wp2_with fail;refine(og n s A2 c2 _ (HT.out.below HB2.out.1) h0 h1 HS.out.1 HB2.out.2.sa).mono ?_;rintro e w3 ⟨rfl,hb⟩;have Z3:=AJ (Z2.out.below hb);have HB3:=AJ (ak HB2.out.1 hb);clear hb;go_wp2_with fail;refine(iz (eK n) _).mono ?_;rintro e w4 ⟨rfl,hb⟩;have Z4:=AJ (Z3.out.below hb);have HB4:=AJ (ak HB3.out hb);clear hb;obtain⟨f0,f1,f2,f3,f4⟩:=Z4.out.f5;obtain⟨p0,p1,p2,p3,p4⟩:=Z4.out.c5;have hzz:=Z4.out.lt;unfold aW;go_wp2_with fail;refine bodyPost_ret (v:=.agg #[.int .i64 7,.int .i64 0,.int .i64 0,.string (eK n),.slice none 0 0]) (by simp[results,Tryz.results197,go_sem, *]) rfl ?_;exact⟨none,0,rfl,SB.nil _ _,cE HB4.out (by omega) _ _ _ _ _⟩
 ·subst hn;simp only[if_true];have B0:=AJ (ab (ab (ae w) (.cells #[.int .i64 7,.int .i64 0,.int .i64 0,.string s,.slice A 0 c] 27)) (.cells #[.int .i64 0,.int .i64 0,.int .i64 0,.string .empty,.slice none 0 0] 27));have Z0:=AJ (ai.at (w:=w.alloc (.cells #[.int .i64 7,.int .i64 0,.int .i64 0,.string s,.slice A 0 c] 27)) (g:=w.heap.size+1) (t:=27) (cs:=#[.int .i64 0,.int .i64 0,.int .i64 0,.string .empty,.slice none 0 0]) (by simp));go_enter Tryz.func197,Tryz.ntmps197;go_wp2_with fail;refine(jf ⟨7,0,0,s,[]⟩ A c _ (by have:=E.out.2.1.2;omega) E.out.2.1.1 (E.out.1.below B0.out)).mono ?_;rintro e w1 ⟨A1,c1,rfl,hsf,hb⟩;have Z1:=AJ (Z0.out.below hb);have HB:=AJ (AH (ak B0.out hb) hsf);clear hb hsf;obtain⟨f0,f1,f2,f3,f4⟩:=Z1.out.f5;obtain⟨p0,p1,p2,p3,p4⟩:=Z1.out.c5;have hzz:=Z1.out.lt;go_wp2_with fail;refine bodyPost_ret (v:=.agg #[.int .i64 7,.int .i64 0,.int .i64 0,.string s,.slice A1 0 c1]) (by simp[results,Tryz.results197,go_sem, *]) rfl ?_;refine⟨A1,c1,rfl,?_,cE HB.out.1 (by omega) _ _ _ _ _⟩;exact(SB.bE HB.out.2.sb (by simp) _ _ _ _ _).mono (by simp;omega)
def qO(tl:TypeId)(w:World)(t:aa)(ls:List ag)(e:Ending)(w':World):Prop:= ∃A c v ls',ls'.Perm ls∧e=.returned (.tuple #[eT t A c,v])∧SS w' (a6 w.heap.size [v] w') t.l A c∧aH w' w.heap.size tl v ls'∧Below w.heap.size w w'
def iw(way:Int)(v:aa):Prop:= ∀(p:List GStep)(A A':Option Addr)(c c':Nat)(w:World),gS w→valOkP v=true→fU v→potG v≤10000→p.length+depG v≤1000→bq v→SA w v.l A c→SA w p A' c'→Calls Tryz.prog 88 #[.int .i64 way,.agg #[.int .i64 v.kind,.int .i64 v.n,.int .i64 v.x,.string v.s,.slice A v.l.length c],.slice A' p.length c'] w (qO 62 w (projP way v p).1 (projP way v p).2)
theorem aH.lF{α:Type}[aD α]{w:World}{base:Nat}{a:α}{cs:List Value}(h:RB base w a cs)(t:TypeId)(hb:base≤w.heap.size):aH (w.alloc (.cells cs.toArray t)) base t (.slice (some ⟨w.heap.size,0,none⟩) 1 1) [a]:=by
 obtain⟨F,h1,h2⟩:=h;have hlt: ∀b,b∈F→b<w.heap.size:=fun b hb=>(h2 b hb).2;refine⟨F,⟨cs,World.ownsRow_lit w cs.toArray 1 hb (by unfold maxLen;omega) (by simp[aD.len h1]),aL.single (aD.al h1 fun b hb=>Below.heap_alloc w _ b (hlt b hb)),fun g hg hm=> ?_⟩,fun b hm=>⟨(h2 b hm).1,by have:=hlt b hm;simp;omega⟩⟩;simp only[Value.ownBlock,Option.some.injEq] at hg;have:=hlt g hm;omega
theorem wY{w w3:World}{B:Nat}{T:aa}{k:Int}{p:List GStep}{A1 A3:Option Addr}{c1 c3:Nat}(hB:w.heap.size+1<B)(hs:SB B w3 T.l A1 c1)(hq:SB B w3 p A3 c3)(hk:aT k)(hb:Below w.heap.size w w3):qO 62 w T [⟨k,p⟩] (.returned (.tuple #[.agg #[.int .i64 T.kind,.int .i64 T.n,.int .i64 T.x,.string T.s,.slice A1 T.l.length c1],.slice (some ⟨w3.heap.size,0,none⟩) 1 1])) ((bE w3 (w.heap.size+1) (.int .i64 T.kind) (.int .i64 T.n) (.int .i64 T.x) (.string T.s) (.slice A1 T.l.length c1)).alloc (.cells #[.int .i64 k,.slice A3 p.length c3] 62)):=by
 have hS:SB w.heap.size (bE w3 (w.heap.size+1) (.int .i64 T.kind) (.int .i64 T.n) (.int .i64 T.x) (.string T.s) (.slice A1 T.l.length c1)) T.l A1 c1:=SB.bF hs (by omega) (by omega) _ _ _ _ _;have hQ:SB w.heap.size (bE w3 (w.heap.size+1) (.int .i64 T.kind) (.int .i64 T.n) (.int .i64 T.x) (.string T.s) (.slice A1 T.l.length c1)) p A3 c3:=SB.bF hq (by omega) (by omega) _ _ _ _ _;have hBl:=ax hb (Nat.le_succ w.heap.size) (.int .i64 T.kind) (.int .i64 T.n) (.int .i64 T.x) (.string T.s) (.slice A1 T.l.length c1);have hz:=aK (w:=w3) (w.heap.size+1) (.int .i64 T.kind) (.int .i64 T.n) (.int .i64 T.x) (.string T.s) (.slice A1 T.l.length c1);revert hS hQ hBl hz;generalize bE w3 (w.heap.size+1) (.int .i64 T.kind) (.int .i64 T.n) (.int .i64 T.x) (.string T.s) (.slice A1 T.l.length c1)=W5;intro hS hQ hBl hz;have hzb:=hBl.size;rw[←hz];refine⟨A1,c1,_,[⟨k,p⟩],.refl _,rfl,?_,aH.lF (RS.lS (x:=⟨k,p⟩) hk hQ) _ hzb,hBl.alloc hzb _⟩;refine SS.al hS (fun b hb=>Below.heap_alloc W5 _ b hb.2) (fun b hb=>⟨⟨hb.1,by have:=hb.2;simp;omega⟩,fun x hx e=> ?_⟩);rw[List.mem_singleton.1 hx] at e;simp only[Value.ownBlock,Option.some.injEq] at e;have:=hb.2;omega
theorem qJ(way:Int)(hw:1≤way∧way≤4)(v:aa)(h9:v.kind≠9)(h10:v.kind≠10)(h11:v.kind≠11):iw way v:=by
 intro p A A' c c' w ht hok hn hpot hd hI hx hp;have B0:=AJ (ab (ab (ae w) (.cells #[.int .i64 v.kind,.int .i64 v.n,.int .i64 v.x,.string v.s,.slice A v.l.length c] 27)) (.cells #[.int .i64 0,.int .i64 0,.int .i64 0,.string .empty,.slice none 0 0] 27));have P0:=AJ ((ai.new w 27 #[.int .i64 v.kind,.int .i64 v.n,.int .i64 v.x,.string v.s,.slice A v.l.length c]).alloc (.cells #[.int .i64 0,.int .i64 0,.int .i64 0,.string .empty,.slice none 0 0] 27));have P1:=AJ (ai.at (w:=w.alloc (.cells #[.int .i64 v.kind,.int .i64 v.n,.int .i64 v.x,.string v.s,.slice A v.l.length c] 27)) (g:=w.heap.size+1) (t:=27) (cs:=#[.int .i64 0,.int .i64 0,.int .i64 0,.string .empty,.slice none 0 0]) (by simp));have hsz:((w.alloc (.cells #[.int .i64 v.kind,.int .i64 v.n,.int .i64 v.x,.string v.s,.slice A v.l.length c] 27)).alloc (.cells #[.int .i64 0,.int .i64 0,.int .i64 0,.string .empty,.slice none 0 0] 27)).heap.size=w.heap.size+1+1:=by simp
 have HSZ:=AJ hsz;clear hsz;have h10b:(v.kind==10)=false:=by simp[h10]
 have h9b:(v.kind==9)=false:=by simp[h9]
 have h11b:(v.kind==11)=false:=by simp[h11]
 have hl:=sW hok h9 h10 h11;have hF:=fun w0 h00 h0=>ik way hw v A c w0 h00 hI hl (rA hok hpot) h0;rw[ei h9 h10 h11];have hkr:=j5 way v;obtain⟨T,hT⟩: ∃T,T=(bZ way v).1:=⟨_,rfl⟩;obtain⟨k,hk⟩: ∃k,k=(bZ way v).2:=⟨_,rfl⟩;rw[←hT,←hk] at hF;rw[←hk] at hkr;rw[←hT,←hk];obtain⟨LS,hLS⟩: ∃LS:List ag,LS=if k=0 then[] else[⟨k,p⟩]:=⟨_,rfl⟩;rw[←hLS];have HLS:=AJ hLS;clear hLS;obtain⟨hk0,hk5⟩:=hkr;have hpl:p.length≤1000:=by omega
 obtain⟨N,hN⟩: ∃N,N=v.l.length:=⟨_,rfl⟩;rw[←hN] at hF B0 P0 P1 HSZ ⊢;have E:=AJ (AH hF (AH hx (AH hp ht.1)));clear hF hx hp h9 h10 h11 hok hn hpot hd hI hN hT hk hl ht;go_enter Tryz.func88,Tryz.ntmps88;obtain⟨b0,b1,b2,b3,b4⟩:=P0.out.c5;go_wp2_with fail;refine(E.out.1 _ (E.out.2.2.2.below B0.out) (E.out.2.1.below B0.out)).mono ?_;rintro e1x w1 ⟨A1,c1,rfl,hsb,hb1⟩;unfold eT;rw[HSZ.out] at hsb;have hws:=hb1.size;rw[HSZ.out] at hws;have hR1:=P1.out.below hb1;have hX1:=ai.new w1 27 #[.int .i64 T.kind,.int .i64 T.n,.int .i64 T.x,.string T.s,.slice A1 T.l.length c1];have hR2:=hR1.alloc (.cells #[.int .i64 T.kind,.int .i64 T.n,.int .i64 T.x,.string T.s,.slice A1 T.l.length c1] 27);have hb2:=ab (ae w1) (.cells #[.int .i64 T.kind,.int .i64 T.n,.int .i64 T.x,.string T.s,.slice A1 T.l.length c1] 27);have hbw:=ak (ak B0.out hb1) hb2;have hsW:=hsb.below hb2;obtain⟨W,hW⟩: ∃W,W=w1.alloc (.cells #[.int .i64 T.kind,.int .i64 T.n,.int .i64 T.x,.string T.s,.slice A1 T.l.length c1] 27):=⟨_,rfl⟩;rw[←hW] at hX1 hR2 hb2 hbw hsW;have hpW:=E.out.2.2.1.below hbw;have hzX:=hX1.lt;have hzR:=hR2.lt;obtain⟨x0,x1,x2,x3,x4⟩:=hX1.c5;obtain⟨r0,r1,r2,r3,r4⟩:=hR2.c5;obtain⟨rf0,rf1,rf2,rf3,rf4⟩:=hR2.f5;have H1:=AJ (AH hsW (AH hpW (AH hbw (AH hX1 hR2))));clear hsW hpW hbw hX1 hR2 hR1 hb1 hb2 hsb b0 b1 b2 b3 b4;have hwW:w.heap.size+1<W.heap.size:=by omega
 by_cases hk:k=0
 ·subst hk;go_upto_region 20 with fail;rw[←hW];clear hW;go_wp2_with fail;refine bodyPost_ret (v:=.tuple #[.agg #[.int .i64 T.kind,.int .i64 T.n,.int .i64 T.x,.string T.s,.slice A1 T.l.length c1],.slice none 0 0]) (by simp[results,Tryz.results88,go_sem, *]<;>rfl) rfl ?_;rw[show LS=[] from by rw[HLS.out];simp];refine⟨A1,c1,.slice none 0 0,[],.refl _,rfl,?_,aH.nz _ _ _,?_⟩;·exact SS.cW H1.out.1 (g:=w.heap.size+1) (fun b hb=>by have:=hb.1;omega) (fun b hb=>⟨⟨by have:=hb.1;omega,Nat.lt_of_lt_of_le hb.2 (Nat.le_of_eq (aK _ _ _ _ _ _).symm)⟩,fun x hx e=>by rw[List.mem_singleton.1 hx] at e;simp[Value.ownBlock] at e⟩) (.int .i64 T.kind) (.int .i64 T.n) (.int .i64 T.x) (.string T.s) (.slice A1 T.l.length c1)
  ·exact ax H1.out.2.2.1 (g:=w.heap.size+1) (by omega) (.int .i64 T.kind) (.int .i64 T.n) (.int .i64 T.x) (.string T.s) (.slice A1 T.l.length c1)
 ·have HK:=AJ hk;have hkb:(k != 0)=true:=by simp[hk]
  have hkb2:(k==0)=false:=by simp[hk]
  clear hk;go_upto_region 21 with fail;rw[←hW];clear hW;have ne1:w1.heap.size≠w.heap.size+1:=by omega
  have ne2:w.heap.size+1≠w1.heap.size:=by omega
  go_region_law(first|(go_simp;go_at_call 153;(refine(cQ p A' c' _ (by omega) (by first|exact H1.out.2.1|exact H1.out.2.1.drew)).mono ?_;rintro e3 w3 ⟨A3,c3,rfl,ho3,hb3⟩;have zc:=(show Below W.heap.size W w3 from(by first|exact hb3|exact ak (ae W).drew hb3));have hX3:=H1.out.2.2.2.1.below zc;have hR3:=H1.out.2.2.2.2.below zc;obtain⟨y0,y1,y2,y3,y4⟩:=hX3.c5;obtain⟨z0,z1,z2,z3,z4⟩:=hR3.c5;obtain⟨zf0,zf1,zf2,zf3,zf4⟩:=hR3.f5;have hz3:=zc.size;have hlt3:=hR3.lt;have hlt4:=hX3.lt;have ne3:w.heap.size+1≠w3.heap.size:=(by omega);have ne4:w3.heap.size≠w.heap.size+1:=(by omega);have ne5:w1.heap.size≠w3.heap.size:=(by omega);have ne6:w3.heap.size≠w1.heap.size:=(by omega);have HO3:=AJ (AH (show ay w3 W.heap.size 86 (.slice A3 p.length c3) p from ho3) zc);clear ho3 hb3 zc hX3 hR3)));all_goals go_wp2_with fail;refine bodyPost_ret (v:=.tuple #[.agg #[.int .i64 T.kind,.int .i64 T.n,.int .i64 T.x,.string T.s,.slice A1 T.l.length c1],.slice (some ⟨w3.heap.size,0,none⟩) 1 1]) (by simp[results,Tryz.results88,go_sem, *]<;>rfl) rfl ?_;rw[show LS=[⟨k,p⟩] from by rw[HLS.out,if_neg HK.out]];exact wY (B:=w.heap.size+1+1) (by omega) (H1.out.1.below HO3.out.2) (HO3.out.1.sf.2.sb.mono (by omega)) ⟨by omega,by omega⟩ (ak H1.out.2.2.1 HO3.out.2)
end Go.Proofs.YtodpdjehjllhdaaGreatDoor
