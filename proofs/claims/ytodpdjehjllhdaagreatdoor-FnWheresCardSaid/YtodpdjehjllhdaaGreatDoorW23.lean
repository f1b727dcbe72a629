/- Part of a proof: contracts and plain laws. -/
import Derived.Test.YtodpdjehjllhdaaGreatDoorW22
set_option linter.unusedVariables false
set_option linter.unusedSimpArgs false
set_option maxRecDepth 100000
set_option maxHeartbeats 20000000
namespace Go.Proofs.YtodpdjehjllhdaaGreatDoor
open Go.RowKit
theorem xu{m:Int}(h:m≠0): ¬(-65535≤m*2^16∧m*2^16≤65535):=by
 omega
theorem za{m:Int}{j:Nat}(h0: -65535≤m)(h1:m≤65535)(hj:j≤16):wrap64 (m*2^j)=m*2^j:=by
 by_cases h:j≤15;·exact pF h0 h1 h
 ·have:j=16:=by omega
  subst this;unfold wrap64;omega
theorem dW(m x:Int)(w:World)(hI:aT m):Calls Tryz.prog 189 #[.agg #[.int .i64 m,.int .i64 x]] w (bW w (.bool (bh m x))):=by
 have P0:=AJ (ai.new w 104 #[.int .i64 m,.int .i64 x]);have B0:=AJ (ab (ae w) (.cells #[.int .i64 m,.int .i64 x] 104));have HI:=AJ hI;clear hI;obtain⟨r,hr⟩: ∃r,r=bh m x:=⟨_,rfl⟩;rw[←hr];unfold bh at hr;by_cases hm0:m=0
 ·have hmb:(m==0)=true:=by simp[hm0]
  rw[if_pos hm0] at hr;have hr2:(x==0)=r:=by rw[hr];rfl
  clear hm0 hr;go_enter Tryz.func189,Tryz.ntmps189;go_wp2_with fail;go_ret;exact⟨rfl,B0.out⟩
 have hmb:(m==0)=false:=by simp[hm0]
 rw[if_neg hm0] at hr;have HM0:=AJ hm0;clear hm0;by_cases hm:m.tmod 2=0
 ·have hm2:(m.tmod 2==0)=true:=by simp[hm]
  have hr0:r=false:=by rw[hr];simp[hm]
  subst hr0;clear hm hr;go_enter Tryz.func189,Tryz.ntmps189;go_wp2_with fail;go_ret;exact⟨rfl,B0.out⟩
 have hm2:(m.tmod 2==0)=false:=by simp[hm]
 have hm3:decide (m.tmod 2≠0)=true:=by simp[hm]
 rw[hm3,Bool.and_true] at hr;clear hm hm3;cases hd:decide (-65535≤m∧m≤65535) with|false=>have HD:=AJ hd;rw[hd] at hr;simp only[Bool.false_and] at hr;subst hr;clear hd;go_enter Tryz.func189,Tryz.ntmps189;go_wp2_with fail;refine(bf _ _ _ _).mono ?_;rintro e w1 ⟨rfl,hb1⟩;rw[HD.out];obtain⟨p0,p1⟩:=(P0.out.below hb1).c2;have P1:=AJ (P0.out.below hb1);have B1:=AJ (ak B0.out hb1);clear hb1;go_wp2_with fail;go_ret;exact⟨rfl,B1.out⟩|true=>have hbd:=of_decide_eq_true hd;rw[hd,Bool.true_and] at hr;have HD:=AJ hd;clear hd;by_cases hlo:x< -16;(·(have hr0:r=false:=by rw[hr,decide_eq_false (by omega)];rfl);subst hr0;clear hr hbd;go_enter Tryz.func189,Tryz.ntmps189;go_wp2_with fail;refine(bf _ _ _ _).mono ?_;rintro e w1 ⟨rfl,hb1⟩;rw[HD.out];obtain⟨p0,p1⟩:=(P0.out.below hb1).c2;have P1:=AJ (P0.out.below hb1);have B1:=AJ (ak B0.out hb1);clear hb1;go_wp2_with fail;go_ret;exact⟨rfl,B1.out⟩);·by_cases h30:x≤30;(·(have hr0:r=true:=by rw[hr,decide_eq_true (show-16≤x∧x≤45 by omega),decide_eq_true h30];rfl);subst hr0;clear hr hbd;go_enter Tryz.func189,Tryz.ntmps189;go_wp2_with fail;refine(bf _ _ _ _).mono ?_;rintro e w1 ⟨rfl,hb1⟩;rw[HD.out];obtain⟨p0,p1⟩:=(P0.out.below hb1).c2;have P1:=AJ (P0.out.below hb1);have B1:=AJ (ak B0.out hb1);clear hb1;go_wp2_with fail;go_ret;exact⟨rfl,B1.out⟩);·by_cases h46:x≤46;(·obtain⟨j,hj⟩: ∃j:Nat,x-30=j:=⟨(x-30).toNat,by omega⟩;(have hx30:x=(j:Int)+30:=by omega);subst hx30;(have hj2:j≤16:=by omega);(have hr0:r=decide (-65535≤m*2^j∧m*2^j≤65535):=by by_cases hj15:j≤15;(·rw[hr,show((j:Int)+30-30).toNat=j by omega,decide_eq_true (show-16≤(j:Int)+30∧(j:Int)+30≤45 by omega),decide_eq_false h30];rfl);·(have e16:j=16:=by omega);rw[hr,decide_eq_false (show ¬(-16≤(j:Int)+30∧(j:Int)+30≤45) by omega),e16,decide_eq_false (xu HM0.out)];rfl);have hp:=za hbd.1 hbd.2 hj2;have HR:=AJ hr0;clear hr hr0 hbd;go_enter Tryz.func189,Tryz.ntmps189;go_wp2_with fail;refine(bf _ _ _ _).mono ?_;rintro e w1 ⟨rfl,hb1⟩;rw[HD.out];obtain⟨p0,p1⟩:=(P0.out.below hb1).c2;have P1:=AJ (P0.out.below hb1);have B1:=AJ (ak B0.out hb1);clear hb1;go_wp2_with fail;refine(bf _ _ _ _).mono ?_;rintro e w3 ⟨rfl,hb3⟩;rw[←HR.out];have B3:=AJ (ak B1.out hb3);clear hb3;go_wp2_with fail;go_ret;exact⟨rfl,B3.out⟩);·(have hr0:r=false:=by rw[hr,decide_eq_false (show ¬(-16≤x∧x≤45) by omega)];rfl);subst hr0;clear hr hbd;go_enter Tryz.func189,Tryz.ntmps189;go_wp2_with fail;refine(bf _ _ _ _).mono ?_;rintro e w1 ⟨rfl,hb1⟩;rw[HD.out];obtain⟨p0,p1⟩:=(P0.out.below hb1).c2;have P1:=AJ (P0.out.below hb1);have B1:=AJ (ak B0.out hb1);clear hb1;go_wp2_with fail;go_ret;exact⟨rfl,B1.out⟩
theorem iS(m e:Int)(w:World)(hm:m.natAbs≤65536)(he0: -20≤e)(he1:e≤60):Calls Tryz.prog 272 #[.int .i64 m,.int .i64 e] w (bW w (bo (bz m e))):=by
 have P0:=AJ (ai.new w 104 #[.int .i64 0,.int .i64 0]);have B0:=AJ (ab (ae w) (.cells #[.int .i64 0,.int .i64 0] 104));have D1:=AJ (show decide (-1000000000000000≤m∧m≤1000000000000000)=true from decide_eq_true ⟨by omega,by omega⟩);have D2:=AJ (show decide (-100≤e∧e≤100)=true from decide_eq_true ⟨by omega,by omega⟩);obtain⟨r,hr⟩: ∃r,r=bz m e:=⟨_,rfl⟩;rw[←hr];unfold bz at hr;by_cases hm0:m=0;·rw[if_pos hm0] at hr;subst hm0 hr;go_enter Tryz.func272,Tryz.ntmps272;go_wp2_with fail;refine(bf _ _ _ _).mono ?_;rintro e w1 ⟨rfl,hb1⟩;rw[D1.out];have P1:=AJ (P0.out.below hb1);have B1:=AJ (ak B0.out hb1);clear hb1;go_wp2_with fail;refine(bf _ _ _ _).mono ?_;rintro e w2 ⟨rfl,hb2⟩;rw[D2.out];have P2:=AJ (P1.out.below hb2);have B2:=AJ (ak B1.out hb2);clear hb2;have hz2:w.heap.size<w2.heap.size:=P2.out.lt;have f0:=P2.out.frozen 0;have f1:=P2.out.frozen 1;obtain⟨p0,p1⟩:=P2.out.c2;go_wp2_with fail;refine bodyPost_ret (v:=bo (some (0,0))) (by simp[results,bo,Tryz.results272,go_sem, *]<;>rfl) rfl ?_;exact⟨rfl,dr B2.out (Nat.le_refl _) _ _⟩
 ·rw[if_neg hm0] at hr;have hmb:(m==0)=false:=by simp[hm0]
  have R:=AJ (AH hr (AH hm0 (AH hm (AH he0 he1))));clear hr hm0 he0 he1;go_enter Tryz.func272,Tryz.ntmps272;go_wp2_with fail;refine(bf _ _ _ _).mono ?_;rintro e1 w1 ⟨rfl,hb1⟩;rw[D1.out];have P1:=AJ (P0.out.below hb1);have B1:=AJ (ak B0.out hb1);clear hb1;go_wp2_with fail;refine(bf _ _ _ _).mono ?_;rintro e1 w2 ⟨rfl,hb2⟩;rw[D2.out];have P2:=AJ (P1.out.below hb2);have B2:=AJ (ak B1.out hb2);clear hb2;go_wp2_with fail;go_loopg[0,1] m.natAbs (fun gk nn xx wr=> ∃(m' e':Int) (f:Nat),nn=.int .i64 m'∧xx=.int .i64 e'∧gk=m'.natAbs∧m'≠0∧m'.natAbs≤65536∧ -20≤e'∧e'+f≤80∧Hid (m'.natAbs<2^f∧ef f m' e'=ef 20 m e)∧wr=w2);case atStart=>exact⟨m,e,20,rfl,rfl,rfl,R.out.2.1,R.out.2.2.1,R.out.2.2.2.1,by have:=R.out.2.2.2.2;omega,⟨by have:=R.out.2.2.1;omega,rfl⟩,rfl⟩
  case round=>
   obtain⟨m',e',f,rfl,rfl,rfl,hn0,hn1,he0,he1,hf,rfl⟩:=hrel;by_cases h2:m'.tmod 2=0
   ·have h2b:(m'.tmod 2==0)=true:=by simp[h2]
    have h3:=kx h2;have h4:=lN m';obtain⟨f',rfl⟩: ∃f',f=f'+1:=⟨f-1,by rcases Nat.eq_zero_or_pos f with h|h;(·subst h;have:=hf.out.1;simp at this;omega);·omega⟩;have hf2:Hid ((m'.tdiv 2).natAbs<2^f'∧ef f' (m'.tdiv 2) (e'+1)=ef 20 m e):=by refine⟨?_,?_⟩;(·have:=hf.out.1;rw[Nat.pow_succ] at this;omega);·rw[←hf.out.2,gM h2]
    have h5:m'.tdiv 2≠0:=by omega
    have h6:(m'.tdiv 2).natAbs≤65536:=by omega
    have h7:(m'.tdiv 2).natAbs<m'.natAbs:=by omega
    clear h2 h3 h4;go_wp2_with fail;go_roundg(m'.tdiv 2).natAbs;case measure=>exact h7
    case rel=>exact⟨_,e'+1,f',rfl,by go_num,rfl,h5,h6,by omega,by omega,hf2,rfl⟩
   ·have h2b:(m'.tmod 2==0)=false:=by simp[h2]
    have ho:=kW (e:=e') h2 f;rw[hf.out.2] at ho;have hr:=R.out.1;rw[ho] at hr;have hI:aT m':=⟨by omega,by omega⟩;have PX:=AJ (ai.new wr 104 #[.int .i64 m',.int .i64 e']);have HR:=AJ (AH hr hI);clear hr ho h2 hI;go_wp2_with fail;refine(dW m' e' _ HR.out.2).mono ?_;rintro e1 w3 ⟨rfl,hb3⟩;have P3:=AJ ((P2.out.alloc (.cells #[.int .i64 m',.int .i64 e'] 104)).below hb3);have X3:=AJ (PX.out.below hb3);have B3:=AJ (ak (ab B2.out _) hb3);clear hb3;have hz3:w.heap.size<w3.heap.size:=P3.out.lt;have hz4:wr.heap.size<w3.heap.size:=X3.out.lt;have hz5:w.heap.size<wr.heap.size:=P2.out.lt;have n1:wr.heap.size≠w.heap.size:=by omega
    have n2:w.heap.size≠wr.heap.size:=by omega
    have f0:=P3.out.frozen 0;have f1:=P3.out.frozen 1;obtain⟨p0,p1⟩:=P3.out.c2;obtain⟨q0,q1⟩:=X3.out.c2;cases hok:bh m' e'
    ·have hr2:r=none:=by rw[HR.out.1];simp[hok]
     subst hr2;go_wp2_with fail;refine bodyPost_ret (v:=bo none) (by simp[results,bo,Tryz.results272,go_sem, *]<;>rfl) rfl ?_;exact⟨rfl,dr B3.out (Nat.le_refl _) _ _⟩
    ·have hr2:r=some (m',e'):=by rw[HR.out.1];simp[hok]
     subst hr2;go_wp2_with fail;refine bodyPost_ret (v:=bo (some (m',e'))) (by simp[results,bo,Tryz.results272,go_sem, *]<;>rfl) rfl ?_;exact⟨rfl,dr B3.out (Nat.le_refl _) _ _⟩
theorem mR(n x:Int)(w:World)(hI:aT n)(ht:ql w)(hm:n.tmod 10≠0)(hd17:eU n≤17)(hx0: -16≤x)(hx1:x≤ -1):Calls Tryz.prog 251 #[.int .i64 n,.int .i64 x] w (bW w (rG n x true)):=by
 have HT:=AJ ht;clear ht;have P0:=AJ (ai.new w 108 #[.int .i64 0,.int .i64 0]);have B0:=AJ (ab (ae w) (.cells #[.int .i64 0,.int .i64 0] 108));have hok:aV n x=true:=by unfold aV;rw[if_neg (by omega)];simp[hm,hd17];omega
 have hd:decide (-40≤x∧x≤40)=true:=decide_eq_true ⟨by omega,by omega⟩;have hn0:(n==0)=false:=by simp;intro e;subst e;exact hm rfl
 have h1:(n.tmod 10==0)=false:=by simp[hm]
 obtain⟨q,hq⟩: ∃q,q=eU n:=⟨_,rfl⟩;rw[←hq] at hd17;have h17': ¬((17:Int)<q):=by omega
 have HI:=AJ (AH hI (AH hok (AH hd hq)));clear hI hok hd hq hm;go_enter Tryz.func251,Tryz.ntmps251;go_wp2_with fail;refine(fJ n _ HI.out.1 (HT.out.below B0.out)).mono ?_;rintro e w1 ⟨rfl,hb1⟩;rw[←HI.out.2.2.2];have P1:=AJ (P0.out.below hb1);have B1:=AJ (ak B0.out hb1);clear hb1;go_wp2_with fail;refine(bf _ _ _ _).mono ?_;rintro e w2 ⟨rfl,hb2⟩;rw[HI.out.2.2.1];have P2:=AJ (P1.out.below hb2);have B2:=AJ (ak B1.out hb2);clear hb2;go_wp2_with fail;go_loopg[0,1] 0 (fun gk nn xx wr=>nn=.int .i64 n∧xx=.int .i64 x∧wr=w2);case atStart=>exact⟨rfl,rfl,rfl⟩
 case round=>
  obtain⟨rfl,rfl,rfl⟩:=hrel;go_wp2_with fail;go_loopg[0,1] 0 (fun gk nn xx wr=>nn=.int .i64 n∧xx=.int .i64 x∧ai wr w.heap.size 108 #[.int .i64 0,.int .i64 0]∧Below w.heap.size w wr);case atStart=>exact⟨rfl,rfl,P2.out,B2.out⟩
  case round=>
   rename_i wr2;obtain⟨rfl,rfl,hP,hbel⟩:=hrel;have hzr:w.heap.size<wr.heap.size:=hP.lt;have HP:=AJ (AH hP hbel);clear hP hbel;have PX:=AJ (ai.new wr 108 #[.int .i64 n,.int .i64 x]);have hx': ¬(0<x):=by omega
   go_wp2_with fail;refine(eW n x _ HI.out.1 (HT.out.below (ab HP.out.2 _))).mono ?_;rintro e w3 ⟨rfl,hb3⟩;rw[HI.out.2.1];have P3:=AJ ((HP.out.1.alloc (.cells #[.int .i64 n,.int .i64 x] 108)).below hb3);have X3:=AJ (PX.out.below hb3);have B3:=AJ (ak (ab HP.out.2 _) hb3);clear hb3;have hz3:w.heap.size<w3.heap.size:=P3.out.lt;have hz4:wr.heap.size<w3.heap.size:=X3.out.lt;have n1:wr.heap.size≠w.heap.size:=by omega
   have n2:w.heap.size≠wr.heap.size:=by omega
   have f0:=P3.out.frozen 0;have f1:=P3.out.frozen 1;obtain⟨p0,p1⟩:=P3.out.c2;obtain⟨q0,q1⟩:=X3.out.c2;go_wp2_with fail;refine bodyPost_ret (v:=rG n x true) (by simp[results,rG,Tryz.results251,go_sem, *]<;>rfl) rfl ?_;exact⟨rfl,dr B3.out (Nat.le_refl _) _ _⟩
theorem iZ(m x:Int)(w:World)(ht:ql w)(hok:bh m x=true):Calls Tryz.prog 211 #[.agg #[.int .i64 m,.int .i64 x]] w (bW w (ow m x)):=by
 have HT:=AJ ht;clear ht;have B0:=AJ (ab (ab (ae w) (.cells #[.int .i64 m,.int .i64 x] 104)) (.cells #[.int .i64 0,.int .i64 0] 108));have P0:=AJ ((ai.new w 104 #[.int .i64 m,.int .i64 x]).alloc (.cells #[.int .i64 0,.int .i64 0] 108));have P1:=AJ (ai.at (w:=w.alloc (.cells #[.int .i64 m,.int .i64 x] 104)) (g:=w.heap.size+1) (t:=108) (cs:=#[.int .i64 0,.int .i64 0]) (by simp));have hI:aT m:=by rcases dD hok with⟨rfl,_⟩|⟨_,h1,h2,_⟩<;>exact⟨by omega,by omega⟩
 have hc:=dD hok;have HI:=AJ (AH hI (AH hok hc));unfold ow aI;by_cases hx:0≤x
 ·obtain⟨j,rfl⟩: ∃j:Nat,x=j:=⟨x.toNat,by omega⟩;have hb:=qo hok;have hw:wrap64 (m*2^j)=m*2^j:=by unfold wrap64;omega
  rw[if_pos hx,show((j:Int)).toNat=j by omega];have hj45:j≤45:=by rcases hc with h|h;(·omega);·have:=h.2.2.2.2.2.1;omega
  clear hI hok hc hb;go_enter Tryz.func211,Tryz.ntmps211;go_wp2_with fail;refine(dW m j _ HI.out.1).mono ?_;rintro e w1 ⟨rfl,hb1⟩;rw[HI.out.2.1];have Q0:=AJ (P0.out.below hb1);have Q1:=AJ (P1.out.below hb1);have B1:=AJ (ak B0.out hb1);clear hb1;have hz1:w.heap.size+1<w1.heap.size:=Q1.out.lt;obtain⟨p0,p1⟩:=Q0.out.c2;obtain⟨q0,q1⟩:=Q1.out.c2;have f0:=Q1.out.frozen 0;have f1:=Q1.out.frozen 1;go_wp2_with fail;refine bodyPost_ret (v:=.agg #[.int .i64 (m*2^j),.int .i64 0]) (by simp[results,Tryz.results211,go_sem, *]<;>rfl) rfl ?_;exact⟨rfl,dr B1.out (by omega) _ _⟩
 ·rw[if_neg hx];obtain⟨j,hj⟩: ∃j:Nat,-x=j:=⟨(-x).toNat,by omega⟩;have hn:=hc.resolve_left (fun h=>by omega);have hnear:=sv hn.2.1 hn.2.2.1 hn.2.2.2.1 (j:=j) (by omega) (by have:=hn.2.2.2.2.1;omega);rw[show(-x).toNat=j by omega];have hxj:x= -(j:Int):=by omega
  have hj16:j≤16:=by have:=hn.2.2.2.2.1;omega
  have hj1:1≤j:=by omega
  obtain⟨q,hq⟩: ∃q:Nat,q=5^j:=⟨_,rfl⟩;have hq2:m*5^j=m*(q:Int):=by rw[hq];simp
  rw[hq2];rw[←hq] at hnear;have hwq:IntKind.i64.wrap (m*(q:Int))=m*(q:Int):=by rw[IntKind.wrap_i64];have:=hnear.1.1;have:=hnear.1.2;omega
  have hwx:IntKind.i64.wrap (-x)=(j:Int):=by rw[IntKind.wrap_i64];omega
  have hx':x<0:=by omega
  have hPow: ∀w,Calls Tryz.prog 252 #[.int .i64 5,.int .i64 (j:Int)] w (bW w (.int .i64 (q:Int))):=fun w=>by rw[hq];exact wT j w (by omega)
  have HP:=AJ hPow;have hxr: -16≤x∧x≤ -1:=⟨by omega,by omega⟩;have HN:=AJ (AH hnear hxr);clear hI hok hc hn hnear hPow hq hq2 hxj hj16 hj1 hj hx hxr;go_enter Tryz.func211,Tryz.ntmps211;go_wp2_with fail;refine(dW m x _ HI.out.1).mono ?_;rintro e w1 ⟨rfl,hb1⟩;rw[HI.out.2.1];have Q0:=AJ (P0.out.below hb1);have Q1:=AJ (P1.out.below hb1);have B1:=AJ (ak B0.out hb1);clear hb1;have hz1:w.heap.size+1<w1.heap.size:=Q1.out.lt;obtain⟨p0,p1⟩:=Q0.out.c2;obtain⟨q0,q1⟩:=Q1.out.c2;have f0:=Q1.out.frozen 0;have f1:=Q1.out.frozen 1;have hb0:w.heap.size<w1.heap.size:=by omega
  have m1:w.heap.size≠w1.heap.size:=by omega
  have m1':w1.heap.size≠w.heap.size:=by omega
  go_wp2_with fail;go_cut[3,4] from 20 to 31 (fun s3 s4 wx=> ∃gy,s3=.pointer (some ⟨gy,0,none⟩)∧s4=.bool true∧w1.heap.size≤gy∧ai wx gy 108 #[.int .i64 (m*(q:Int)),.int .i64 x]∧Below w1.heap.size w1 wx)
  case first=>
   go_region_held3(fun u=>u.cell? ⟨w.heap.size,0,none⟩=some (.int .i64 m)∧u.cell? ⟨w.heap.size,1,none⟩=some (.int .i64 x)) (go_keep) (first|(go_at_call 252;(refine(HP.out _).mono ?_;rintro e w3 ⟨rfl,hb3⟩;have HB3:=AJ (show Below w1.heap.size w1 w3 from(by first|exact ak (ae w1).drew hb3|exact ak (ab (ae w1) _).drew hb3));have i0:=(HB3.out.cell (p:=⟨w.heap.size,_,none⟩) hb0).trans p0;have i1:=(HB3.out.cell (p:=⟨w.heap.size,_,none⟩) hb0).trans p1;have HR3:=AJ hb3;obtain⟨hc3,hf3⟩:=ig hb3;have hs3:=hb3.size;(try simp at hs3);(try have hs3':w1.heap.size<w3.heap.size:=(by omega));have hz3:w1.heap.size≤w3.heap.size:=HB3.out.size;have m3:w.heap.size≠w3.heap.size:=(by omega);have m3':w3.heap.size≠w.heap.size:=(by omega);clear hb3))|(go_at_call 251;(refine(mR _ x _ HN.out.1.1 (by first|exact HT.out.below (ak B1.out HB3.out)|exact HT.out.below (ab (ak B1.out HB3.out) _)) HN.out.1.2.1 HN.out.1.2.2.1 HN.out.2.1 HN.out.2.2).mono ?_;rintro e w4 ⟨rfl,hb4⟩;unfold rG;have HB4:=AJ (show Below w1.heap.size w1 w4 from(by first|exact ak HB3.out hb4|exact ak (ab HB3.out _) hb4));have j0:=(HB4.out.cell (p:=⟨w.heap.size,_,none⟩) hb0).trans p0;have j1:=(HB4.out.cell (p:=⟨w.heap.size,_,none⟩) hb0).trans p1;have HR4:=AJ hb4;obtain⟨hc4,hf4⟩:=ig hb4;have hs4:=hb4.size;(try simp at hs4);(try have hs4':w3.heap.size<w4.heap.size:=(by omega));(try have hs4'':w1.heap.size<w4.heap.size:=(by omega));have hz4:w1.heap.size≤w4.heap.size:=HB4.out.size;have m4:w.heap.size≠w4.heap.size:=(by omega);have m4':w4.heap.size≠w.heap.size:=(by omega);clear hb4)));·go_wp2_with fail;go_meet;exact⟨w4.heap.size,rfl,rfl,hz4,ai.at rfl,ab HB4.out _⟩
   ·go_wp2_with fail;go_meet;refine⟨w3.heap.size,rfl,rfl,hz3,((((ai.new w3 _ _).below HR4.out).cF 0 _).cF 1 _),(HB4.out.setCell (p:=⟨w3.heap.size,0,none⟩) hz3 _).setCell (p:=⟨w3.heap.size,1,none⟩) hz3 _⟩
   ·go_wp2_with fail;go_meet;refine⟨w1.heap.size,rfl,rfl,Nat.le_refl _,(((((ai.new w1 _ _).drew.below HR3.out).below HR4.out).cF 0 _).cF 1 _),dr HB4.out (Nat.le_refl _) _ _⟩
  case rest=>
   obtain⟨gy,rfl,rfl,hgy,hY,hbx⟩:=hcut;obtain⟨y0,y1⟩:=hY.c2;have R1:=Q1.out.below hbx;have hz2:w.heap.size+1<wc.heap.size:=R1.lt;have g0:=R1.frozen 0;have g1:=R1.frozen 1;obtain⟨r0,r1⟩:=R1.c2;have n1:gy≠w.heap.size+1:=by omega
   have n2:w.heap.size+1≠gy:=by omega
   have HX:=AJ (ak B1.out hbx);clear hbx hY p0 p1 q0 q1 f0 f1;go_wp2_with fail;refine bodyPost_ret (v:=.agg #[.int .i64 (m*(q:Int)),.int .i64 x]) (by simp[results,Tryz.results211,go_sem, *]<;>rfl) rfl ?_;exact⟨rfl,dr HX.out (by omega) _ _⟩
section
section
variable {y a b u t q r : Nat}
theorem uO(hy:y=a*4294967296+b)(ha:0<a)(ht:t<4294967296):(u*4294967296+t)/y≤u/a:=by
 have hy0:0<y:=by omega
 rw[Nat.le_div_iff_mul_le ha];have h1:(u*4294967296+t)/y*y≤u*4294967296+t:=Nat.div_mul_le_self _ _;generalize(u*4294967296+t)/y=Q at h1 ⊢;rw[hy,Nat.mul_add,←Nat.mul_assoc] at h1;generalize Q*a=z at h1 ⊢;omega
theorem uE(hu:u<y)(ht:t<4294967296)(hq:4294967296≤q):(u*4294967296+t)/y<q:=by
 have hy0:0<y:=by omega
 rw[Nat.div_lt_iff_lt_mul hy0];have h1:4294967296*y≤q*y:=Nat.mul_le_mul_right _ hq;omega
theorem yB(hy:y=a*4294967296+b)(hy0:0<y)(hr:q*a+r=u)(h:4294967296*r+t<q*b):(u*4294967296+t)/y<q:=by
 rw[Nat.div_lt_iff_lt_mul hy0,hy,Nat.mul_add,←Nat.mul_assoc];generalize q*a=z at hr ⊢;generalize q*b=v at h ⊢;omega
theorem tU(hy:y=a*4294967296+b)(hy0:0<y)(hr:q*a+r=u)(hQ:(u*4294967296+t)/y≤q)(h:q*b≤4294967296*r+t):q=(u*4294967296+t)/y:=by
 apply Nat.le_antisymm _ hQ;rw[Nat.le_div_iff_mul_le hy0,hy,Nat.mul_add,←Nat.mul_assoc];generalize q*a=z at hr ⊢;generalize q*b=v at h ⊢;omega
theorem kK(hy:y=a*4294967296+b)(hb:b<4294967296)(hu:u<y)(hr:q*a+r=u)(hQ:(u*4294967296+t)/y≤q)(h:4294967296≤r):q=(u*4294967296+t)/y:=by
 have hq:q<4294967296:=by apply Nat.lt_of_not_le;intro hc;have h1:4294967296*a≤q*a:=Nat.mul_le_mul_right _ hc;omega
 have h2:q*b≤4294967295*4294967295:=Nat.mul_le_mul (by omega) (by omega);exact tU hy (by omega) hr hQ (by omega)
end
theorem yX(K y u t1 t0:Nat)(hy0:0<y):((u*K+t1)/y)*K+(((u*K+t1)%y)*K+t0)/y=((u*K+t1)*K+t0)/y∧(((u*K+t1)%y)*K+t0)%y=((u*K+t1)*K+t0)%y:=by
 have h1:=Nat.div_add_mod (u*K+t1) y;generalize(u*K+t1)/y=q1 at h1 ⊢;generalize(u*K+t1)%y=r1 at h1 ⊢;have e:(u*K+t1)*K+t0=(r1*K+t0)+(q1*K)*y:=by rw[←h1,Nat.add_mul,Nat.mul_right_comm q1 K y,Nat.mul_comm q1 y];omega
 rw[e,Nat.add_mul_div_right _ _ hy0,Nat.add_mul_mod_self_right];exact⟨by omega,rfl⟩
end
theorem zR{hi lo y C S B:Nat}(hCS:C*S=B)(hS:0<S)(hC:0<C)(hlo:lo<B)(hh:hi<y):(hi*B+lo)*S=(hi*S+lo/C)*B+lo*S%B∧hi*S+lo/C<y*S∧lo/C<S:=by
 have h1:lo*S/B=lo/C:=by rw[←hCS,Nat.mul_div_mul_right _ _ hS]
 have h2:=Nat.div_add_mod (lo*S) B;rw[h1] at h2;have h3:lo/C<S:=by rw[Nat.div_lt_iff_lt_mul hC,Nat.mul_comm,hCS];exact hlo
 have h4:(hi+1)*S≤y*S:=Nat.mul_le_mul_right _ hh;rw[Nat.add_mul,Nat.one_mul] at h4;refine⟨?_,by omega,h3⟩;rw[Nat.add_mul,Nat.add_mul,Nat.add_assoc,Nat.mul_comm (lo/C) B,h2,Nat.mul_right_comm]
theorem yN{N y S:Nat}(hS:0<S):N*S/(y*S)=N/y∧N*S%(y*S)/S=N%y:=by
 refine⟨Nat.mul_div_mul_right _ _ hS,?_⟩;rw[Nat.mul_mod_mul_right,Nat.mul_div_cancel _ hS]
theorem bk{a:Nat}(h:a<18446744073709551616):IntKind.u64.wrap (a:Int)=(a:Int):=by
 rw[IntKind.wrap_u64];omega
theorem xT{a:Nat}(h:a<18446744073709551616):(BitVec.ofInt 64 (a:Int)).toNat=a:=by
 rw[BitVec.ofInt_natCast,BitVec.toNat_ofNat];exact Nat.mod_eq_of_lt h
theorem yG{a:Nat}(h:a<18446744073709551616):bits .and .u64 (a:Int) 4294967295=((a%4294967296:Nat):Int):=by
 have h3:bits .and .u64 (a:Int) ((4294967295:Nat):Int)=IntKind.u64.wrap ((BitVec.ofInt 64 (a:Int) &&& BitVec.ofInt 64 ((4294967295:Nat):Int)).toNat:Int):=rfl;show bits .and .u64 (a:Int) ((4294967295:Nat):Int)=_;rw[h3,BitVec.toNat_and,xT h,xT (by decide),Nat.and_two_pow_sub_one_eq_mod a 32];exact bk (by have:=Nat.mod_lt a (show 0<4294967296 by decide);omega)
theorem Ad{a b s:Nat}(ha:a*2^s<18446744073709551616)(hb:b<2^s)(hs:s≤63):bits .or .u64 ((a*2^s:Nat):Int) (b:Int)=((a*2^s+b:Nat):Int):=by
 have hs2:2^s≤2^63:=Nat.pow_le_pow_right (by decide) hs;have hb2:b<18446744073709551616:=by omega
 have h3:bits .or .u64 ((a*2^s:Nat):Int) (b:Int)=IntKind.u64.wrap ((BitVec.ofInt 64 ((a*2^s:Nat):Int) ||| BitVec.ofInt 64 (b:Int)).toNat:Int):=rfl;have h4:a*2^s ||| b=a*2^s+b:=by rw[Nat.mul_comm a];exact(Nat.two_pow_add_eq_or_of_lt hb a).symm
 rw[h3,BitVec.toNat_or,xT ha,xT hb2,h4];apply bk;have hle:a*2^s+b<(a+1)*2^s:=by rw[Nat.add_mul];omega
 have hd:2^s ∣ 18446744073709551616:=by refine⟨2^(64-s),?_⟩;rw[←Nat.pow_add,show s+(64-s)=64 by omega]
 obtain⟨c,hc⟩:=hd;have hac:a<c:=by apply Nat.lt_of_mul_lt_mul_right (a:=2^s);rw[Nat.mul_comm c,←hc];exact ha
 have:(a+1)*2^s≤c*2^s:=Nat.mul_le_mul_right _ hac;rw[Nat.mul_comm c,←hc] at this;omega
end Go.Proofs.YtodpdjehjllhdaaGreatDoor
