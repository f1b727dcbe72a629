/- Part of a proof: contracts and plain laws. -/
import Derived.Test.YtodpdjehjllhdaaGreatDoorK24
set_option linter.unusedVariables false
set_option linter.unusedSimpArgs false
set_option maxRecDepth 100000
set_option maxHeartbeats 20000000
namespace Go.Proofs.YtodpdjehjllhdaaGreatDoor
open Go.RowKit
theorem lS(f k n x:Int)(s:ByteArray)(A:Option Addr)(c:Nat)(w:World)(hf:f=1∨f=2∨f=3∨f=4)(hk:tQ f k)(hI:bC ⟨k,n,x,s,[]⟩)(hs:s.size≤1048576)(hx:SA w ([]:List aa) A c):Calls Tryz.prog 154 #[.int .i64 f,.agg #[.int .i64 k,.int .i64 n,.int .i64 x,.string s,.slice A 0 c]] w (ix w (⟨k,n,x,s,[]⟩:aa) (.int .i64 0)):=by
 have B0:=Ad (ab (ab (ae w) (.cells #[.int .i64 k,.int .i64 n,.int .i64 x,.string s,.slice A 0 c] 27)) (.cells #[.int .i64 0,.int .i64 0,.int .i64 0,.string .empty,.slice none 0 0] 27));have Z0:=Ad (aj.at (w:=w.alloc (.cells #[.int .i64 k,.int .i64 n,.int .i64 x,.string s,.slice A 0 c] 27)) (g:=w.heap.size+1) (t:=27) (cs:=#[.int .i64 0,.int .i64 0,.int .i64 0,.string .empty,.slice none 0 0]) (by simp));have HH:=Ad (Ac hI (Ac hs hx));clear hI hs hx;unfold tQ at hk;cases b3:(k==3)<;>cases b4:(k==4)<;>cases b5:(k==5)<;>cases b6:(k==6)<;>cases b8:(k==8)<;>rcases hf with rfl|rfl|rfl|rfl;all_goals try(exfalso;simp only[beq_iff_eq,beq_eq_false_iff_ne,ne_eq] at b3 b4 b5 b6 b8;omega)
 all_goals
  clear hk;go_enter Tryz.func154,Tryz.ntmps154;go_wp2_with fail;try(refine(bR _ 2 4 _).mono ?_;rintro e w0 ⟨rfl,rfl⟩;go_wp2_with fail)
  refine(lY ⟨k,n,x,s,[]⟩ A c _ (by rw[au];simp[bulkVals];exact HH.out.2.1) HH.out.1 (HH.out.2.2.below B0.out)).mono ?_;rintro e w1 ⟨A1,c1,rfl,hsf,hb⟩;have Z1:=Ad (Z0.out.below hb);have HB:=Ad (Ac (ai B0.out hb) hsf);clear hb hsf;obtain⟨f0,f1,f2,f3,f4,p0,p1,p2,p3,p4,hzz⟩:=Z1.out.z5;go_wp2_with fail;refine bodyPost_ret (v:=.tuple #[.agg #[.int .i64 k,.int .i64 n,.int .i64 x,.string s,.slice A1 0 c1],.int .i64 0]) (by simp[results,Tryz.results154,go_sem, *]) rfl ?_;refine⟨A1,c1,rfl,?_,cz HB.out.1 (by omega) _ _ _ _ _⟩;exact(SB.bJ HB.out.2.sb (by simp) _ _ _ _ _).mono (by simp;omega)
theorem lR(f k n x:Int)(s:ByteArray)(A:Option Addr)(c:Nat)(w:World)(hk:k=5∧(f=1∨f=4))(hI:bC ⟨k,n,x,s,[]⟩)(hs:s.size≤1048576)(hx:SA w ([]:List aa) A c):Calls Tryz.prog 154 #[.int .i64 f,.agg #[.int .i64 k,.int .i64 n,.int .i64 x,.string s,.slice A 0 c]] w (ix w i6 (.int .i64 4)):=by
 have B0:=Ad (ab (ab (ae w) (.cells #[.int .i64 k,.int .i64 n,.int .i64 x,.string s,.slice A 0 c] 27)) (.cells #[.int .i64 0,.int .i64 0,.int .i64 0,.string .empty,.slice none 0 0] 27));have Z0:=Ad (aj.at (w:=w.alloc (.cells #[.int .i64 k,.int .i64 n,.int .i64 x,.string s,.slice A 0 c] 27)) (g:=w.heap.size+1) (t:=27) (cs:=#[.int .i64 0,.int .i64 0,.int .i64 0,.string .empty,.slice none 0 0]) (by simp));have HH:=Ad (Ac hI (Ac hs hx));clear hI hs hx;rcases hk with⟨rfl,rfl|rfl⟩;all_goals go_enter Tryz.func154,Tryz.ntmps154;go_wp2_with fail;refine bodyPost_ret (v:=.tuple #[.agg #[.int .i64 1,.int .i64 0,.int .i64 0,.string {data:=#[]},.slice none 0 0],.int .i64 4]) (by simp[results,Tryz.results154,go_sem, *]) rfl ?_;exact⟨none,0,rfl,SB.nil _ _,by first|exact ab (ab (ae w) _) _|exact cz B0.out (by omega) _ _ _ _ _⟩
theorem mY(f k n x:Int)(s:ByteArray)(A:Option Addr)(c:Nat)(w:World)(hk:k=8∧(f=1∨f=4))(hI:bC ⟨k,n,x,s,[]⟩)(hs:s.size≤1048576)(hx:SA w ([]:List aa) A c):Calls Tryz.prog 154 #[.int .i64 f,.agg #[.int .i64 k,.int .i64 n,.int .i64 x,.string s,.slice A 0 c]] w (ix w (jm (ng s)) (.int .i64 5)):=by
 have B0:=Ad (ab (ab (ae w) (.cells #[.int .i64 k,.int .i64 n,.int .i64 x,.string s,.slice A 0 c] 27)) (.cells #[.int .i64 0,.int .i64 0,.int .i64 0,.string .empty,.slice none 0 0] 27));have Z0:=Ad (aj.at (w:=w.alloc (.cells #[.int .i64 k,.int .i64 n,.int .i64 x,.string s,.slice A 0 c] 27)) (g:=w.heap.size+1) (t:=27) (cs:=#[.int .i64 0,.int .i64 0,.int .i64 0,.string .empty,.slice none 0 0]) (by simp));have HH:=Ad (Ac hI (Ac hs hx));clear hI hs hx;rcases hk with⟨rfl,rfl|rfl⟩;all_goals go_enter Tryz.func154,Tryz.ntmps154;go_wp2_with fail;refine(np s _ HH.out.2.1).mono ?_;rintro e w1 ⟨rfl,hb⟩;have Z1:=Ad (Z0.out.below hb);have HB:=Ad (ai B0.out hb);clear hb;go_wp2_with fail;refine(iD (ng s) _).mono ?_;rintro e w2 ⟨rfl,hb⟩;have Z2:=Ad (Z1.out.below hb);have HB2:=Ad (ai HB.out hb);clear hb;obtain⟨f0,f1,f2,f3,f4,p0,p1,p2,p3,p4,hzz⟩:=Z2.out.z5;unfold aX;go_wp2_with fail;refine bodyPost_ret (v:=.tuple #[.agg #[.int .i64 7,.int .i64 0,.int .i64 0,.string (ng s),.slice none 0 0],.int .i64 5]) (by simp[results,Tryz.results154,go_sem, *]) rfl ?_;exact⟨none,0,rfl,SB.nil _ _,cz HB2.out (by omega) _ _ _ _ _⟩
theorem mX(f k n x:Int)(s:ByteArray)(A:Option Addr)(c:Nat)(w:World)(ht:qC w)(hk:k=4∧f=1)(hok:bg n x=true)(hI:bC ⟨k,n,x,s,[]⟩)(hs:s.size≤1048576)(hx:SA w ([]:List aa) A c):Calls Tryz.prog 154 #[.int .i64 f,.agg #[.int .i64 k,.int .i64 n,.int .i64 x,.string s,.slice A 0 c]] w (ix w (bZ (aI n x).1 (aI n x).2) (.int .i64 1)):=by
 have B0:=Ad (ab (ab (ae w) (.cells #[.int .i64 k,.int .i64 n,.int .i64 x,.string s,.slice A 0 c] 27)) (.cells #[.int .i64 0,.int .i64 0,.int .i64 0,.string .empty,.slice none 0 0] 27));have Z0:=Ad (aj.at (w:=w.alloc (.cells #[.int .i64 k,.int .i64 n,.int .i64 x,.string s,.slice A 0 c] 27)) (g:=w.heap.size+1) (t:=27) (cs:=#[.int .i64 0,.int .i64 0,.int .i64 0,.string .empty,.slice none 0 0]) (by simp));have HH:=Ad (Ac hI (Ac hs hx));clear hI hs hx;have HT:=Ad ht;clear ht;have HK:=Ad hok;clear hok;obtain⟨rfl,rfl⟩:=hk;go_enter Tryz.func154,Tryz.ntmps154;go_wp2_with fail;refine(ja n x _ (HT.out.below B0.out) HK.out).mono ?_;rintro e w1 ⟨rfl,hb⟩;unfold nN;have Z1:=Ad (Z0.out.below hb);have HB:=Ad (ai B0.out hb);clear hb;go_wp2_with fail;refine(kQ (aI n x).1 (aI n x).2 _).mono ?_;rintro e w2 ⟨rfl,hb⟩;have Z2:=Ad (Z1.out.below hb);have HB2:=Ad (ai HB.out hb);clear hb;obtain⟨f0,f1,f2,f3,f4,p0,p1,p2,p3,p4,hzz⟩:=Z2.out.z5;unfold aX;obtain⟨u,hu⟩: ∃u,u=bZ (aI n x).1 (aI n x).2:=⟨_,rfl⟩;have hul:u.l=[]∧u.s={data:=#[]}:=by rw[hu];unfold bZ;split<;>exact⟨rfl,rfl⟩
 rw[←hu];have HU:=Ad (Ac hul hu);clear hul hu;go_wp2_with fail;refine bodyPost_ret (v:=.tuple #[.agg #[.int .i64 u.kind,.int .i64 u.n,.int .i64 u.x,.string {data:=#[]},.slice none 0 0],.int .i64 1]) (by simp[results,Tryz.results154,go_sem, *]) rfl ?_;rw[←HU.out.2];refine⟨none,0,?_,?_,cz HB2.out (by omega) _ _ _ _ _⟩;·unfold eL;rw[HU.out.1.1,HU.out.1.2];rfl
 ·rw[HU.out.1.1];exact SB.nil _ _
theorem l6(f k n x:Int)(s:ByteArray)(A:Option Addr)(c:Nat)(w:World)(ht:qC w)(hk:sV f k)(hok:aZ n x=true)(hI:bC ⟨k,n,x,s,[]⟩)(hs:s.size≤1048576)(hx:SA w ([]:List aa) A c):Calls Tryz.prog 154 #[.int .i64 f,.agg #[.int .i64 k,.int .i64 n,.int .i64 x,.string s,.slice A 0 c]] w (ix w (aD n x).1 (.int .i64 (aD n x).2)):=by
 have B0:=Ad (ab (ab (ae w) (.cells #[.int .i64 k,.int .i64 n,.int .i64 x,.string s,.slice A 0 c] 27)) (.cells #[.int .i64 0,.int .i64 0,.int .i64 0,.string .empty,.slice none 0 0] 27));have V0:=Ad ((aj.new w 27 #[.int .i64 k,.int .i64 n,.int .i64 x,.string s,.slice A 0 c]).alloc (.cells #[.int .i64 0,.int .i64 0,.int .i64 0,.string .empty,.slice none 0 0] 27));have Z0:=Ad (aj.at (w:=w.alloc (.cells #[.int .i64 k,.int .i64 n,.int .i64 x,.string s,.slice A 0 c] 27)) (g:=w.heap.size+1) (t:=27) (cs:=#[.int .i64 0,.int .i64 0,.int .i64 0,.string .empty,.slice none 0 0]) (by simp));have HH:=Ad (Ac hI (Ac hs hx));clear hI hs hx;have HT:=Ad ht;clear ht;have HK:=Ad hok;clear hok;rcases hr:eM n x with _|⟨m1,e1⟩
 ·have hnr:aD n x=(i6,3):=by unfold aD;rw[hr]
  rw[hnr];have HR:=Ad hr;clear hr hnr;rcases hk with⟨rfl,rfl⟩|⟨rfl,rfl|rfl|rfl⟩
  all_goals
   go_enter Tryz.func154,Tryz.ntmps154;go_wp2_with fail;try(refine(bR _ 2 4 _).mono ?_;rintro e w0 ⟨rfl,rfl⟩;go_wp2_with fail)
   refine(iy _ n x s A 0 c _ (HT.out.below B0.out) HK.out).mono ?_;rintro e w1 ⟨rfl,hb⟩;rw[HR.out];unfold n9 aX;have Z1:=Ad (Z0.out.below hb);have V1:=Ad (V0.out.below hb);have HB:=Ad (ai B0.out hb);clear hb;obtain⟨f0,f1,f2,f3,f4,p0,p1,p2,p3,p4,hzz⟩:=Z1.out.z5;go_wp2_with fail;refine bodyPost_ret (v:=.tuple #[.agg #[.int .i64 1,.int .i64 0,.int .i64 0,.string {data:=#[]},.slice none 0 0],.int .i64 3]) (by simp[results,Tryz.results154,go_sem, *]) rfl ?_;exact⟨none,0,rfl,SB.nil _ _,by first|exact ab (cz HB.out (by omega) _ _ _ _ _) _|exact cz (ab HB.out _) (by omega) _ _ _ _ _⟩
 ·have hx2:(fe n x=true∧aD n x=(⟨4,m1,e1,.empty,[]⟩,1))∨(fe n x=false∧aD n x=(⟨4,m1,e1,.empty,[]⟩,2)):=by rw[gu hr];unfold aD;rw[hr];by_cases hq:aI m1 e1=(n,x)<;>simp[hq]
  have HR:=Ad hr;clear hr;rcases hx2 with⟨hX2,hnr⟩|⟨hX2,hnr⟩<;>rw[hnr]<;>rcases hk with⟨rfl,rfl⟩|⟨rfl,rfl|rfl|rfl⟩
  all_goals
   have HX2:=Ad hX2;clear hX2 hnr;go_enter Tryz.func154,Tryz.ntmps154;go_wp2_with fail;try(refine(bR _ 2 4 _).mono ?_;rintro e w0 ⟨rfl,rfl⟩;go_wp2_with fail)
   refine(iy _ n x s A 0 c _ (HT.out.below B0.out) HK.out).mono ?_;rintro e w1 ⟨rfl,hb⟩;rw[HR.out];unfold n9 aX;have Z1:=Ad (Z0.out.below hb);have V1:=Ad (V0.out.below hb);have HB:=Ad (ai B0.out hb);clear hb;obtain⟨v0,v1,v2,v3,v4⟩:=V1.out.c5;have hvv:=V1.out.lt;have n1:w.heap.size≠w1.heap.size:=by omega
   have n1':w1.heap.size≠w.heap.size:=by omega
   go_wp2_with fail;refine(pq n x _ (HT.out.below (ab HB.out _)) HK.out).mono ?_;rintro e w2 ⟨rfl,hb⟩;rw[HX2.out];have Z2:=Ad ((Z1.out.alloc (.cells #[.int .i64 4,.int .i64 m1,.int .i64 e1,.string {data:=#[]},.slice none 0 0] 27)).below hb);have F2:=Ad ((aj.new w1 27 #[.int .i64 4,.int .i64 m1,.int .i64 e1,.string {data:=#[]},.slice none 0 0]).below hb);have HB2:=Ad (ai (ab HB.out _) hb);clear hb v0 v1 v2 v3 v4 hvv;obtain⟨f0,f1,f2,f3,f4,p0,p1,p2,p3,p4,hzz⟩:=Z2.out.z5;obtain⟨g0,g1,g2,g3,g4⟩:=F2.out.c5;have hg:=F2.out.lt;go_wp2_with fail;first|refine bodyPost_ret (v:=.tuple #[.agg #[.int .i64 4,.int .i64 m1,.int .i64 e1,.string {data:=#[]},.slice none 0 0],.int .i64 1]) (by simp[results,Tryz.results154,go_sem, *]) rfl ?_;exact⟨none,0,rfl,SB.nil _ _,cz HB2.out (by omega) _ _ _ _ _⟩|refine bodyPost_ret (v:=.tuple #[.agg #[.int .i64 4,.int .i64 m1,.int .i64 e1,.string {data:=#[]},.slice none 0 0],.int .i64 2]) (by simp[results,Tryz.results154,go_sem, *]) rfl ?_;exact⟨none,0,rfl,SB.nil _ _,cz HB2.out (by omega) _ _ _ _ _⟩
theorem iv(way:Int)(hw:1≤way∧way≤4)(v:aa)(A:Option Addr)(c:Nat)(w:World)(ht:qC w)(hI:bC v)(hl:v.l=[])(hp:qN v.kind v.n v.x v.s)(hx:SA w v.l A c):Calls Tryz.prog 154 #[.int .i64 way,.agg #[.int .i64 v.kind,.int .i64 v.n,.int .i64 v.x,.string v.s,.slice A v.l.length c]] w (ix w (cB way v).1 (.int .i64 (cB way v).2)):=by
 obtain⟨k,n,x,s,l⟩:=v;simp only at hl hp hx;subst hl;obtain⟨h3,h6,h4,hs⟩:=hp;have hf:way=1∨way=2∨way=3∨way=4:=by omega
 rcases pR (k:=k) hf with hk|hk|hk|hk|hk;·rw[oD hk hf];exact lS way k n x s A c w hf hk hI hs hx
 ·rw[nZ hk];exact l6 way k n x s A c w ht hk (by rcases hk with h|h;exact h3 h.1;exact h6 h.1) hI hs hx
 ·have h:=mX way k n x s A c w ht hk (h4 hk.1) hI hs hx;obtain⟨rfl,rfl⟩:=hk;exact h
 ·have h:=lR way k n x s A c w hk hI hs hx;obtain⟨rfl,rfl|rfl⟩:=hk<;>exact h
 ·have h:=mY way k n x s A c w hk hI hs hx;obtain⟨rfl,rfl|rfl⟩:=hk<;>exact h
def fk(w:World):Prop:=qC w∧Lib.Utf8Tabs 0 1 w
theorem fk.below{w w':World}(h:fk w)(hb:Below w.heap.size w w'):fk w':=⟨h.1.below hb,Utf8Tabs_below h.2 hb⟩
theorem jh(s:ByteArray)(w:World)(hs:s.size≤1099511627776)(ht:fk w):Calls Tryz.prog 188 #[.string s] w (bN w (.bool (b7 s))):=by
 have HC:=Ad (Tryz.utf8_ValidString s w (by omega) ht.2);clear ht;unfold b7;generalize Lib.validD s.data.toList=r at HC ⊢;go_enter Tryz.func188,Tryz.ntmps188;go_wp2_with fail;refine HC.out.mono ?_;rintro e w1 ⟨rfl,hb⟩;have HB:=Ad hb;clear hb;go_wp2_with fail;go_ret;exact⟨rfl,HB.out⟩
theorem vr(v:aa)(A:Option Addr)(c:Nat)(w:World)(hn:bulkVal v≤1048576)(hI:bC v)(ht:fk w):Calls Tryz.prog 130 #[.agg #[.int .i64 v.kind,.int .i64 v.n,.int .i64 v.x,.string v.s,.slice A v.l.length c]] w (bN w (.bool (af v))):=by
 obtain⟨k,n,x,s,l⟩:=v;dsimp only;have hn1:l.length≤1048576:=by rw[au,aB] at hn;dsimp only at hn;omega
 have hns:s.size≤1099511627776:=by rw[au] at hn;dsimp only at hn;omega
 clear hn;have HI:=Ad hI;clear hI;have HN:=Ad hns;clear hns;have HT:=Ad ht;clear ht;obtain⟨r,hr⟩: ∃r,r=af ⟨k,n,x,s,l⟩:=⟨_,rfl⟩;rw[←hr];have HR:=Ad hr;clear hr;have B0:=Ad (ab (ae w) (.cells #[.int .i64 k,.int .i64 n,.int .i64 x,.string s,.slice A l.length c] 27));have P0:=Ad (aj.new w 27 #[.int .i64 k,.int .i64 n,.int .i64 x,.string s,.slice A l.length c]);by_cases hkk:1≤k∧k≤11
 ·have hk11:k=1∨k=2∨k=3∨k=4∨k=5∨k=6∨k=7∨k=8∨k=9∨k=10∨k=11:=by omega
  clear hkk;rcases hk11 with rfl|rfl|rfl|rfl|rfl|rfl|rfl|rfl|rfl|rfl|rfl
  ·skip;by_cases hs:s=.empty
   ·have hse:=bq.2 hs;by_cases hx:x=0
    ·subst hx;by_cases hl:l=[]
     ·subst hl;by_cases hn:n=0
      ·subst hn;have hr0:r=true:=by rw[HR.out];simp[af,hs]
       subst hr0;clear hs;go_enter Tryz.func130,Tryz.ntmps130;go_wp2_with fail;go_ret;exact⟨rfl,B0.out⟩
      ·have hnb:(n==0)=false:=by simpa using hn
       have hr0:r=false:=by rw[HR.out];simp[af,hs,hn]
       subst hr0;clear hs;go_enter Tryz.func130,Tryz.ntmps130;go_wp2_with fail;go_ret;exact⟨rfl,B0.out⟩
     ·have hll:l.length≠0:=fun e=>hl (List.length_eq_zero_iff.1 e);have hr0:r=false:=by rw[HR.out];simp[af,hs,hl]
      subst hr0;clear hs hl;go_enter Tryz.func130,Tryz.ntmps130;go_wp2_with fail;go_ret;exact⟨rfl,B0.out⟩
    ·have hxb:(x==0)=false:=by simpa using hx
     have hr0:r=false:=by rw[HR.out];simp[af,hs,hx]
     subst hr0;clear hs;go_enter Tryz.func130,Tryz.ntmps130;go_wp2_with fail;go_ret;exact⟨rfl,B0.out⟩
   ·have hse:=bP hs;have hr0:r=false:=by rw[HR.out];simp[af,hs]
    subst hr0;clear hs;go_enter Tryz.func130,Tryz.ntmps130;go_wp2_with fail;go_ret;exact⟨rfl,B0.out⟩
  ·skip;by_cases hs:s=.empty
   ·have hse:=bq.2 hs;by_cases hx:x=0
    ·subst hx;by_cases hl:l=[]
     ·subst hl;by_cases h0:n=0
      ·subst h0;have hr0:r=true:=by rw[HR.out];simp[af,hs]
       subst hr0;clear hs;go_enter Tryz.func130,Tryz.ntmps130;go_wp2_with fail;go_ret;exact⟨rfl,B0.out⟩
      ·by_cases h1:n=1
       ·subst h1;have hr0:r=true:=by rw[HR.out];simp[af,hs]
        subst hr0;clear hs;go_enter Tryz.func130,Tryz.ntmps130;go_wp2_with fail;go_ret;exact⟨rfl,B0.out⟩
       ·have h01: ¬(0≤n∧n≤1):=by omega
        have h0b:(n==0)=false:=by simpa using h0
        have h1b:(n==1)=false:=by simpa using h1
        have hr0:r=false:=by rw[HR.out];simp[af,hs,h01]
        subst hr0;clear hs;go_enter Tryz.func130,Tryz.ntmps130;go_wp2_with fail;go_ret;exact⟨rfl,B0.out⟩
     ·have hll:l.length≠0:=fun e=>hl (List.length_eq_zero_iff.1 e);have hr0:r=false:=by rw[HR.out];simp[af,hs,hl]
      subst hr0;clear hs hl;go_enter Tryz.func130,Tryz.ntmps130;go_wp2_with fail;go_ret;exact⟨rfl,B0.out⟩
    ·have hxb:(x==0)=false:=by simpa using hx
     have hr0:r=false:=by rw[HR.out];simp[af,hs,hx]
     subst hr0;clear hs;go_enter Tryz.func130,Tryz.ntmps130;go_wp2_with fail;go_ret;exact⟨rfl,B0.out⟩
   ·have hse:=bP hs;have hr0:r=false:=by rw[HR.out];simp[af,hs]
    subst hr0;clear hs;go_enter Tryz.func130,Tryz.ntmps130;go_wp2_with fail;go_ret;exact⟨rfl,B0.out⟩
  ·skip;by_cases hs:s=.empty
   ·have hse:=bq.2 hs;by_cases hx:x=0
    ·subst hx;by_cases hl:l=[]
     ·subst hl;by_cases hi: -1000000000000000≤n∧n≤1000000000000000
      ·have hd:decide ((-1000000000000000:Int)≤n∧n≤1000000000000000)=true:=decide_eq_true hi;have hr0:r=true:=by rw[HR.out];simp[af,hs,hi]
       subst hr0;have HD:=Ad hd;clear hd;clear hs hi;go_enter Tryz.func130,Tryz.ntmps130;go_wp2_with fail;refine(bR _ _ _ _).mono ?_;rintro e w1 ⟨rfl,rfl⟩;rw[HD.out];go_wp2_with fail;go_ret;exact⟨rfl,B0.out⟩
      ·have hd:decide ((-1000000000000000:Int)≤n∧n≤1000000000000000)=false:=decide_eq_false hi;have hr0:r=false:=by rw[HR.out];simp[af,hs,hi]
       subst hr0;have HD:=Ad hd;clear hd;clear hs hi;go_enter Tryz.func130,Tryz.ntmps130;go_wp2_with fail;refine(bR _ _ _ _).mono ?_;rintro e w1 ⟨rfl,rfl⟩;rw[HD.out];go_wp2_with fail;go_ret;exact⟨rfl,B0.out⟩
     ·have hll:l.length≠0:=fun e=>hl (List.length_eq_zero_iff.1 e);have hr0:r=false:=by rw[HR.out];simp[af,hs,hl]
      subst hr0;clear hs hl;go_enter Tryz.func130,Tryz.ntmps130;go_wp2_with fail;go_ret;exact⟨rfl,B0.out⟩
    ·have hxb:(x==0)=false:=by simpa using hx
     have hr0:r=false:=by rw[HR.out];simp[af,hs,hx]
     subst hr0;clear hs;go_enter Tryz.func130,Tryz.ntmps130;go_wp2_with fail;go_ret;exact⟨rfl,B0.out⟩
   ·have hse:=bP hs;have hr0:r=false:=by rw[HR.out];simp[af,hs]
    subst hr0;clear hs;go_enter Tryz.func130,Tryz.ntmps130;go_wp2_with fail;go_ret;exact⟨rfl,B0.out⟩
  ·skip;by_cases hs:s=.empty
   ·have hse:=bq.2 hs;by_cases hl:l=[];·subst hl;cases hf:bg n x with|true=>(have hr0:r=true:=by rw[HR.out];simp[af,hs,hf]);subst hr0;have HF:=Ad hf;clear hf;clear hs;go_enter Tryz.func130,Tryz.ntmps130;go_wp2_with fail;refine(dT n x _ HI.out.2.1).mono ?_;rintro e w1 ⟨rfl,hb1⟩;rw[HF.out];have P11:=Ad (P0.out.below hb1);have B11:=Ad (ai B0.out hb1);clear hb1;obtain⟨q10,q11,q12,q13,q14⟩:=P11.out.c5;go_wp2_with fail;go_ret;exact⟨rfl,B11.out⟩|false=>(have hr0:r=false:=by rw[HR.out];simp[af,hs,hf]);subst hr0;have HF:=Ad hf;clear hf;clear hs;go_enter Tryz.func130,Tryz.ntmps130;go_wp2_with fail;refine(dT n x _ HI.out.2.1).mono ?_;rintro e w1 ⟨rfl,hb1⟩;rw[HF.out];have P11:=Ad (P0.out.below hb1);have B11:=Ad (ai B0.out hb1);clear hb1;obtain⟨q10,q11,q12,q13,q14⟩:=P11.out.c5;go_wp2_with fail;go_ret;exact⟨rfl,B11.out⟩
    ·have hll:l.length≠0:=fun e=>hl (List.length_eq_zero_iff.1 e);have hr0:r=false:=by rw[HR.out];simp[af,hs,hl]
     subst hr0;clear hs hl;go_enter Tryz.func130,Tryz.ntmps130;go_wp2_with fail;go_ret;exact⟨rfl,B0.out⟩
   ·have hse:=bP hs;have hr0:r=false:=by rw[HR.out];simp[af,hs]
    subst hr0;clear hs;go_enter Tryz.func130,Tryz.ntmps130;go_wp2_with fail;go_ret;exact⟨rfl,B0.out⟩
  ·skip;by_cases hs:s=.empty
   ·have hse:=bq.2 hs;by_cases hx:x=0
    ·subst hx;by_cases hl:l=[]
     ·subst hl;by_cases hi:0≤n∧n≤2
      ·have hd:decide ((0:Int)≤n∧n≤2)=true:=decide_eq_true hi;have hr0:r=true:=by rw[HR.out];simp[af,hs,hi]
       subst hr0;have HD:=Ad hd;clear hd;clear hs hi;go_enter Tryz.func130,Tryz.ntmps130;go_wp2_with fail;refine(bR _ _ _ _).mono ?_;rintro e w1 ⟨rfl,rfl⟩;rw[HD.out];go_wp2_with fail;go_ret;exact⟨rfl,B0.out⟩
      ·have hd:decide ((0:Int)≤n∧n≤2)=false:=decide_eq_false hi;have hr0:r=false:=by rw[HR.out];simp[af,hs,hi]
       subst hr0;have HD:=Ad hd;clear hd;clear hs hi;go_enter Tryz.func130,Tryz.ntmps130;go_wp2_with fail;refine(bR _ _ _ _).mono ?_;rintro e w1 ⟨rfl,rfl⟩;rw[HD.out];go_wp2_with fail;go_ret;exact⟨rfl,B0.out⟩
     ·have hll:l.length≠0:=fun e=>hl (List.length_eq_zero_iff.1 e);have hr0:r=false:=by rw[HR.out];simp[af,hs,hl]
      subst hr0;clear hs hl;go_enter Tryz.func130,Tryz.ntmps130;go_wp2_with fail;go_ret;exact⟨rfl,B0.out⟩
    ·have hxb:(x==0)=false:=by simpa using hx
     have hr0:r=false:=by rw[HR.out];simp[af,hs,hx]
     subst hr0;clear hs;go_enter Tryz.func130,Tryz.ntmps130;go_wp2_with fail;go_ret;exact⟨rfl,B0.out⟩
   ·have hse:=bP hs;have hr0:r=false:=by rw[HR.out];simp[af,hs]
    subst hr0;clear hs;go_enter Tryz.func130,Tryz.ntmps130;go_wp2_with fail;go_ret;exact⟨rfl,B0.out⟩
  ·skip;by_cases hs:s=.empty
   ·have hse:=bq.2 hs;by_cases hl:l=[]
    ·subst hl;by_cases hx:x<0;·skip;cases hf:aZ n x with|true=>(have hr0:r=true:=by rw[HR.out];simp[af,hs,hx,hf]);subst hr0;have HF:=Ad hf;clear hf;clear hs;go_enter Tryz.func130,Tryz.ntmps130;go_wp2_with fail;refine(fj n x _ HI.out.2.1 (HT.out.1.below B0.out)).mono ?_;rintro e w1 ⟨rfl,hb1⟩;rw[HF.out];have P11:=Ad (P0.out.below hb1);have B11:=Ad (ai B0.out hb1);clear hb1;obtain⟨q10,q11,q12,q13,q14⟩:=P11.out.c5;go_wp2_with fail;go_ret;exact⟨rfl,B11.out⟩|false=>(have hr0:r=false:=by rw[HR.out];simp[af,hs,hx,hf]);subst hr0;have HF:=Ad hf;clear hf;clear hs;go_enter Tryz.func130,Tryz.ntmps130;go_wp2_with fail;refine(fj n x _ HI.out.2.1 (HT.out.1.below B0.out)).mono ?_;rintro e w1 ⟨rfl,hb1⟩;rw[HF.out];have P11:=Ad (P0.out.below hb1);have B11:=Ad (ai B0.out hb1);clear hb1;obtain⟨q10,q11,q12,q13,q14⟩:=P11.out.c5;go_wp2_with fail;go_ret;exact⟨rfl,B11.out⟩
     ·skip;have hr0:r=false:=by rw[HR.out];simp[af,hs,hx]
      subst hr0;clear hs;go_enter Tryz.func130,Tryz.ntmps130;go_wp2_with fail;go_ret;exact⟨rfl,B0.out⟩
    ·have hll:l.length≠0:=fun e=>hl (List.length_eq_zero_iff.1 e);have hr0:r=false:=by rw[HR.out];simp[af,hs,hl]
     subst hr0;clear hs hl;go_enter Tryz.func130,Tryz.ntmps130;go_wp2_with fail;go_ret;exact⟨rfl,B0.out⟩
   ·have hse:=bP hs;have hr0:r=false:=by rw[HR.out];simp[af,hs]
    subst hr0;clear hs;go_enter Tryz.func130,Tryz.ntmps130;go_wp2_with fail;go_ret;exact⟨rfl,B0.out⟩
  ·skip;by_cases hx:x=0
   ·subst hx;by_cases hl:l=[]
    ·subst hl;by_cases hn:n=0;·subst hn;cases hf:b7 s with|true=>(have hr0:r=true:=by rw[HR.out];simp[af,hf]);subst hr0;have HF:=Ad hf;clear hf;go_enter Tryz.func130,Tryz.ntmps130;go_wp2_with fail;refine(jh s _ HN.out (HT.out.below B0.out)).mono ?_;rintro e w1 ⟨rfl,hb1⟩;rw[HF.out];have P11:=Ad (P0.out.below hb1);have B11:=Ad (ai B0.out hb1);clear hb1;obtain⟨q10,q11,q12,q13,q14⟩:=P11.out.c5;go_wp2_with fail;go_ret;exact⟨rfl,B11.out⟩|false=>(have hr0:r=false:=by rw[HR.out];simp[af,hf]);subst hr0;have HF:=Ad hf;clear hf;go_enter Tryz.func130,Tryz.ntmps130;go_wp2_with fail;refine(jh s _ HN.out (HT.out.below B0.out)).mono ?_;rintro e w1 ⟨rfl,hb1⟩;rw[HF.out];have P11:=Ad (P0.out.below hb1);have B11:=Ad (ai B0.out hb1);clear hb1;obtain⟨q10,q11,q12,q13,q14⟩:=P11.out.c5;go_wp2_with fail;go_ret;exact⟨rfl,B11.out⟩
     ·have hnb:(n==0)=false:=by simpa using hn
      have hr0:r=false:=by rw[HR.out];simp[af,hn]
      subst hr0;go_enter Tryz.func130,Tryz.ntmps130;go_wp2_with fail;go_ret;exact⟨rfl,B0.out⟩
    ·have hll:l.length≠0:=fun e=>hl (List.length_eq_zero_iff.1 e);have hr0:r=false:=by rw[HR.out];simp[af,hl]
     subst hr0;clear hl;go_enter Tryz.func130,Tryz.ntmps130;go_wp2_with fail;go_ret;exact⟨rfl,B0.out⟩
   ·have hxb:(x==0)=false:=by simpa using hx
    have hr0:r=false:=by rw[HR.out];simp[af,hx]
    subst hr0;go_enter Tryz.func130,Tryz.ntmps130;go_wp2_with fail;go_ret;exact⟨rfl,B0.out⟩
  ·skip;by_cases hx:x=0
   ·subst hx;by_cases hl:l=[]
    ·subst hl;by_cases hn:n=0
     ·subst hn;have hr0:r=true:=by rw[HR.out];simp[af]
      subst hr0;go_enter Tryz.func130,Tryz.ntmps130;go_wp2_with fail;go_ret;exact⟨rfl,B0.out⟩
     ·have hnb:(n==0)=false:=by simpa using hn
      have hr0:r=false:=by rw[HR.out];simp[af,hn]
      subst hr0;go_enter Tryz.func130,Tryz.ntmps130;go_wp2_with fail;go_ret;exact⟨rfl,B0.out⟩
    ·have hll:l.length≠0:=fun e=>hl (List.length_eq_zero_iff.1 e);have hr0:r=false:=by rw[HR.out];simp[af,hl]
     subst hr0;clear hl;go_enter Tryz.func130,Tryz.ntmps130;go_wp2_with fail;go_ret;exact⟨rfl,B0.out⟩
   ·have hxb:(x==0)=false:=by simpa using hx
    have hr0:r=false:=by rw[HR.out];simp[af,hx]
    subst hr0;go_enter Tryz.func130,Tryz.ntmps130;go_wp2_with fail;go_ret;exact⟨rfl,B0.out⟩
  ·skip;by_cases hs:s=.empty
   ·have hse:=bq.2 hs;by_cases hx:x=0
    ·subst hx;by_cases hn:n=0
     ·subst hn;have hr0:r=true:=by rw[HR.out];simp[af,hs]
      subst hr0;clear hs;go_enter Tryz.func130,Tryz.ntmps130;go_wp2_with fail;go_ret;exact⟨rfl,B0.out⟩
     ·have hnb:(n==0)=false:=by simpa using hn
      have hr0:r=false:=by rw[HR.out];simp[af,hs,hn]
      subst hr0;clear hs;go_enter Tryz.func130,Tryz.ntmps130;go_wp2_with fail;go_ret;exact⟨rfl,B0.out⟩
    ·have hxb:(x==0)=false:=by simpa using hx
     have hr0:r=false:=by rw[HR.out];simp[af,hs,hx]
     subst hr0;clear hs;go_enter Tryz.func130,Tryz.ntmps130;go_wp2_with fail;go_ret;exact⟨rfl,B0.out⟩
   ·have hse:=bP hs;have hr0:r=false:=by rw[HR.out];simp[af,hs]
    subst hr0;clear hs;go_enter Tryz.func130,Tryz.ntmps130;go_wp2_with fail;go_ret;exact⟨rfl,B0.out⟩
  ·skip;by_cases hs:s=.empty
   ·have hse:=bq.2 hs;by_cases hx:x=0
    ·subst hx;by_cases hn:n=0
     ·subst hn;by_cases hl:l.length%2=0
      ·have hle:((l.length:Int)%2==0)=true:=by simp;omega
       have hr0:r=true:=by rw[HR.out];simp[af,hs,hl]
       subst hr0;clear hs;go_enter Tryz.func130,Tryz.ntmps130;go_wp2_with fail;go_ret;exact⟨rfl,B0.out⟩
      ·have hle:((l.length:Int)%2==0)=false:=by simp;omega
       have hr0:r=false:=by rw[HR.out];simp[af,hs,hl]
       subst hr0;clear hs;go_enter Tryz.func130,Tryz.ntmps130;go_wp2_with fail;go_ret;exact⟨rfl,B0.out⟩
     ·have hnb:(n==0)=false:=by simpa using hn
      have hr0:r=false:=by rw[HR.out];simp[af,hs,hn]
      subst hr0;clear hs;go_enter Tryz.func130,Tryz.ntmps130;go_wp2_with fail;go_ret;exact⟨rfl,B0.out⟩
    ·have hxb:(x==0)=false:=by simpa using hx
     have hr0:r=false:=by rw[HR.out];simp[af,hs,hx]
     subst hr0;clear hs;go_enter Tryz.func130,Tryz.ntmps130;go_wp2_with fail;go_ret;exact⟨rfl,B0.out⟩
   ·have hse:=bP hs;have hr0:r=false:=by rw[HR.out];simp[af,hs]
    subst hr0;clear hs;go_enter Tryz.func130,Tryz.ntmps130;go_wp2_with fail;go_ret;exact⟨rfl,B0.out⟩
  ·skip;by_cases hs:s=.empty
   ·have hse:=bq.2 hs;by_cases hx:x=0
    ·subst hx;by_cases hi:0≤n∧n≤1000000000000000
     ·have hd:decide ((0:Int)≤n∧n≤1000000000000000)=true:=decide_eq_true hi;by_cases hl:l.length=1
      ·have hle:((l.length:Int)==1)=true:=by simp;omega
       have hr0:r=true:=by rw[HR.out];simp[af,hs,hi,hl]
       subst hr0;have HD:=Ad hd;clear hd;clear hs hi hl;go_enter Tryz.func130,Tryz.ntmps130;go_wp2_with fail;refine(bR _ _ _ _).mono ?_;rintro e w1 ⟨rfl,rfl⟩;rw[HD.out];go_wp2_with fail;go_ret;exact⟨rfl,B0.out⟩
      ·have hle:((l.length:Int)==1)=false:=by simp;omega
       have hr0:r=false:=by rw[HR.out];simp[af,hs,hi,hl]
       subst hr0;have HD:=Ad hd;clear hd;clear hs hi;go_enter Tryz.func130,Tryz.ntmps130;go_wp2_with fail;refine(bR _ _ _ _).mono ?_;rintro e w1 ⟨rfl,rfl⟩;rw[HD.out];go_wp2_with fail;go_ret;exact⟨rfl,B0.out⟩
     ·have hd:decide ((0:Int)≤n∧n≤1000000000000000)=false:=decide_eq_false hi;have hr0:r=false:=by rw[HR.out];simp[af,hs,hi]
      subst hr0;have HD:=Ad hd;clear hd;clear hs hi;go_enter Tryz.func130,Tryz.ntmps130;go_wp2_with fail;refine(bR _ _ _ _).mono ?_;rintro e w1 ⟨rfl,rfl⟩;rw[HD.out];go_wp2_with fail;go_ret;exact⟨rfl,B0.out⟩
    ·have hxb:(x==0)=false:=by simpa using hx
     have hr0:r=false:=by rw[HR.out];simp[af,hs,hx]
     subst hr0;clear hs;go_enter Tryz.func130,Tryz.ntmps130;go_wp2_with fail;go_ret;exact⟨rfl,B0.out⟩
   ·have hse:=bP hs;have hr0:r=false:=by rw[HR.out];simp[af,hs]
    subst hr0;clear hs;go_enter Tryz.func130,Tryz.ntmps130;go_wp2_with fail;go_ret;exact⟨rfl,B0.out⟩
 ·have hk1:k≠1∧k≠2∧k≠3∧k≠4∧k≠5∧k≠6∧k≠7∧k≠8∧k≠9∧k≠10∧k≠11:=by omega
  have hr0:r=false:=by rw[HR.out];simp[af,hk1]
  clear hkk;obtain⟨k1,k2,k3,k4,k5,k6,k7,k8,k9,k10,k11⟩:=hk1;subst hr0;by_cases hs:s.toList.isEmpty=true;all_goals by_cases hx:x=0
  all_goals try subst hx
  all_goals by_cases hkl:k<9∧0<l.length
  all_goals
   go_enter Tryz.func130,Tryz.ntmps130;go_wp2_with fail;all_goals go_ret
   all_goals exact⟨rfl,B0.out⟩
theorem Kept.vw{w w':World}(h:Kept [] w w'):Below w.heap.size w w':=⟨h.1,h.2.1,h.2.2.1,h.2.2.2.1,fun b hb=>h.2.2.2.2 b hb (by simp)⟩
def xH(base:Nat)(_:Unit)(own:List Nat)(w:World):Prop:=own=[]∧base≤w.heap.size∧fk w
theorem zN(base:Nat):Cb vi (xH base) (·<base) 130 #[] (fun _=>0):=by
 have hcall: ∀s own w(x:aa) A c,xH base s own w→SS w (·<base) x.l A c→bC x→bulkVal x≤1048576→(fun _=>0:Unit→Nat) s≤4194304→Calls Tryz.prog 130 (#[.agg #[.int .i64 x.kind,.int .i64 x.n,.int .i64 x.x,.string x.s,.slice A x.l.length c]]++#[]) w (mN (xH base) own w (vi s x).1 (.bool (vi s x).2)):=by intro s own w x A c h hs hv hn _;refine(vr x A c w hn hv h.2.2).mono ?_;rintro e w' ⟨rfl,hb⟩;refine⟨rfl,[],⟨rfl,Nat.le_trans h.2.1 hb.size,h.2.2.below hb⟩,by simp,?_⟩;rw[h.1];exact Kept.az hb
 exact{ak:=fun s own w w' h hb=>⟨h.1,Nat.le_trans h.2.1 hb.size,h.2.2.below hb⟩,apart:=fun s own w h b hb=>⟨Nat.lt_of_lt_of_le hb h.2.1,by rw[h.1];simp⟩,lt:=fun s own w h b hb=>by rw[h.1] at hb;exact absurd hb (by simp),call:=hcall,bud:=fun _ _=>by simp,enter:=fun a w=>by kernel_rfl}
theorem fg(v:aa)(A:Option Addr)(c:Nat)(w:World)(ht:fk w)(hn:bulkVal v≤1048576)(hI:bC v)(hx:SA w v.l A c):Calls Tryz.prog 73 #[.agg #[.int .i64 v.kind,.int .i64 v.n,.int .i64 v.x,.string v.s,.slice A v.l.length c]] w (bN w (.bool (valOkP v))):=by
 have B0:=Ad (ab (ae w) (.cells #[.int .i64 v.kind,.int .i64 v.n,.int .i64 v.x,.string v.s,.slice A v.l.length c] 27));have hC:=wb (zN w.heap.size) v () [] A c (w.alloc (.cells #[.int .i64 v.kind,.int .i64 v.n,.int .i64 v.x,.string v.s,.slice A v.l.length c] 27)) ⟨rfl,by simp,ht.below B0.out⟩ (SS.ak hx (fun b hb=>B0.out.block b hb) (fun b hb=>hb)) hI hn (by simp only;omega);rw[evG_ok] at hC;have HC:=Ad hC;clear hC hx ht;go_enter Tryz.func73,Tryz.ntmps73;go_wp2_with fail;refine HC.out.mono ?_;rintro e w1 ⟨rfl,own',h1,h2,h3⟩;have h1':=h1.1;have HB:=Ad (ai B0.out h3.vw);clear h1 h2 h3 h1';go_wp2_with fail;go_ret;exact⟨rfl,HB.out⟩
end Go.Proofs.YtodpdjehjllhdaaGreatDoor
