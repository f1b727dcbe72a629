/- Part of a proof: contracts and plain laws. -/
import Derived.Test.YtodpdjehjllhdaaGreatDoorW06
import Derived.Deep.RegionHeld3
import Derived.Deep.CutRange
import Derived.Deep.DeepCutAuto
set_option linter.unusedVariables false
set_option linter.unusedSimpArgs false
set_option maxRecDepth 100000
set_option maxHeartbeats 20000000
namespace Go.Proofs.YtodpdjehjllhdaaGreatDoor
open Go.RowKit
theorem pF{m:Int}{j:Nat}(h0: -65535≤m)(h1:m≤65535)(hj:j≤15):wrap64 (m*2^j)=m*2^j:=by
 have h2:(2:Int)^j≤32768:=by have:(2:Nat)^j≤2^15:=Nat.pow_le_pow_right (by omega) hj;(have h3:((2^j:Nat):Int)=(2:Int)^j:=by simp);omega
 have h3:(0:Int)<2^j:=by have:(0:Nat)<2^j:=Nat.pow_pos (by omega);(have h3:((2^j:Nat):Int)=(2:Int)^j:=by simp);omega
 have h4:m*2^j≤65535*32768:=by have h5:m*2^j≤65535*2^j:=Int.mul_le_mul_of_nonneg_right h1 (by omega);omega
 have h5: -65535*32768≤m*2^j:=by have h5: -65535*2^j≤m*2^j:=Int.mul_le_mul_of_nonneg_right h0 (by omega);omega
 unfold wrap64;omega
theorem cP(m x:Int)(w:World)(hI:aT m):Calls Tryz.prog 142 #[.agg #[.int .i64 m,.int .i64 x]] w (bW w (.bool (bh m x))):=by
 have P0:=AJ (ai.new w 104 #[.int .i64 m,.int .i64 x]);have B0:=AJ (ab (ae w) (.cells #[.int .i64 m,.int .i64 x] 104));have HI:=AJ hI;clear hI;obtain⟨r,hr⟩: ∃r,r=bh m x:=⟨_,rfl⟩;rw[←hr];unfold bh at hr;by_cases hm0:m=0
 ·have hmb:(m==0)=true:=by simp[hm0]
  rw[if_pos hm0] at hr;have hr2:(x==0)=r:=by rw[hr];rfl
  clear hm0 hr;go_enter Tryz.func142,Tryz.ntmps142;go_wp2_with fail;go_ret;exact⟨rfl,B0.out⟩
 have hmb:(m==0)=false:=by simp[hm0]
 rw[if_neg hm0] at hr;clear hm0;cases hd:decide (-65535≤m∧m≤65535) with|false=>have HD:=AJ hd;rw[hd] at hr;simp only[Bool.false_and] at hr;subst hr;clear hd;go_enter Tryz.func142,Tryz.ntmps142;go_wp2_with fail;refine(aP _ _ _ _).mono ?_;rintro e w1 ⟨rfl,hb1⟩;rw[HD.out];have B1:=AJ (ak B0.out hb1);clear hb1;go_wp2_with fail;go_ret;exact⟨rfl,B1.out⟩|true=>rw[hd,Bool.true_and] at hr;have HD:=AJ hd;clear hd;by_cases hm:m.tmod 2=0;(·(have hm2:(m.tmod 2==0)=true:=by simp[hm]);(have hr0:r=false:=by rw[hr];simp[hm]);subst hr0;clear hm hr;go_enter Tryz.func142,Tryz.ntmps142;go_wp2_with fail;refine(aP _ _ _ _).mono ?_;rintro e w1 ⟨rfl,hb1⟩;rw[HD.out];obtain⟨p0,p1⟩:=(P0.out.below hb1).c2;have B1:=AJ (ak B0.out hb1);clear hb1;go_wp2_with fail;go_ret;exact⟨rfl,B1.out⟩);(have hm2:(m.tmod 2==0)=false:=by simp[hm]);(have hm3:decide (m.tmod 2≠0)=true:=by simp[hm]);rw[hm3,Bool.true_and] at hr;clear hm hm3;cases he:decide (-16≤x∧x≤45) with|false=>have HE:=AJ he;rw[he] at hr;simp only[Bool.false_and] at hr;subst hr;clear he;go_enter Tryz.func142,Tryz.ntmps142;go_wp2_with fail;refine(aP _ _ _ _).mono ?_;rintro e w1 ⟨rfl,hb1⟩;rw[HD.out];obtain⟨p0,p1⟩:=(P0.out.below hb1).c2;have B1:=AJ (ak B0.out hb1);clear hb1;go_wp2_with fail;refine(aP _ _ _ _).mono ?_;rintro e w2 ⟨rfl,hb2⟩;rw[HE.out];have B2:=AJ (ak B1.out hb2);clear hb2;go_wp2_with fail;go_ret;exact⟨rfl,B2.out⟩|true=>have hx:=of_decide_eq_true he;rw[he,Bool.true_and] at hr;have HE:=AJ he;clear he;by_cases h30:x≤30;(·(have hr0:r=true:=by rw[hr];simp[h30]);subst hr0;clear hr;go_enter Tryz.func142,Tryz.ntmps142;go_wp2_with fail;refine(aP _ _ _ _).mono ?_;rintro e w1 ⟨rfl,hb1⟩;rw[HD.out];obtain⟨p0,p1⟩:=(P0.out.below hb1).c2;have P1:=AJ (P0.out.below hb1);have B1:=AJ (ak B0.out hb1);clear hb1;go_wp2_with fail;refine(aP _ _ _ _).mono ?_;rintro e w2 ⟨rfl,hb2⟩;rw[HE.out];obtain⟨q0,q1⟩:=(P1.out.below hb2).c2;have B2:=AJ (ak B1.out hb2);clear hb2;go_wp2_with fail;go_ret;exact⟨rfl,B2.out⟩);·obtain⟨j,hj⟩: ∃j:Nat,x-30=j:=⟨(x-30).toNat,by omega⟩;(have hx30:x=(j:Int)+30:=by omega);subst hx30;(have hj2:j≤15:=by omega);have hle:=decide_eq_false h30;(have hr0:r=decide (-65535≤m*2^j∧m*2^j≤65535):=by rw[hr,show((j:Int)+30-30).toNat=j by omega];simp[h30]);have hbd:=of_decide_eq_true HD.out;have hp:=pF hbd.1 hbd.2 hj2;have HR:=AJ hr0;clear hr hr0 hbd;go_enter Tryz.func142,Tryz.ntmps142;go_wp2_with fail;refine(aP _ _ _ _).mono ?_;rintro e w1 ⟨rfl,hb1⟩;rw[HD.out];obtain⟨p0,p1⟩:=(P0.out.below hb1).c2;have P1:=AJ (P0.out.below hb1);have B1:=AJ (ak B0.out hb1);clear hb1;go_wp2_with fail;refine(aP _ _ _ _).mono ?_;rintro e w2 ⟨rfl,hb2⟩;rw[HE.out];obtain⟨q0,q1⟩:=(P1.out.below hb2).c2;have B2:=AJ (ak B1.out hb2);clear hb2;go_wp2_with fail;refine(aP _ _ _ _).mono ?_;rintro e w3 ⟨rfl,hb3⟩;rw[←HR.out];have B3:=AJ (ak B2.out hb3);clear hb3;go_wp2_with fail;go_ret;exact⟨rfl,B3.out⟩
theorem wK(k:Nat)(w:World)(hk1:k≤17):Calls Tryz.prog 236 #[.int .i64 5,.int .i64 k] w (bW w (.int .i64 ((5^k:Nat):Int))):=by
 have hd:decide ((0:Int)≤k∧(k:Int)≤17)=true:=decide_eq_true ⟨by omega,by omega⟩;have HD:=AJ hd;clear hd;have hle: ∀j,j≤k→5^j≤100000000000000000:=fun j hj=>by have h1:5^j≤10^j:=Nat.pow_le_pow_left (by omega) j;have h2:10^j≤10^17:=Nat.pow_le_pow_right (by omega) (by omega);omega
 have HL:=AJ hle;clear hle;obtain⟨r,hr⟩: ∃r,r=5^k:=⟨_,rfl⟩;rw[←hr];have R:=AJ hr;clear hr;go_enter Tryz.func236,Tryz.ntmps236;go_wp2_with fail;refine(aP _ _ _ _).mono ?_;rintro e w1 ⟨rfl,hb1⟩;rw[HD.out];have B1:=AJ hb1;clear hb1;go_wp2_with fail;go_loopg[5,6] k (fun gk nn i wr=> ∃(j n:Nat),j≤k∧nn=.int .i64 n∧i=.int .i64 j∧gk=k-j∧Hid (n=5^j)∧wr=w1);case atStart=>exact⟨0,1,by omega,rfl,rfl,by omega,rfl,rfl⟩
 case round=>
  obtain⟨j,n,hj,rfl,rfl,rfl,hn,rfl⟩:=hrel;by_cases hlt:j<k
  ·have hi1:(j:Int)<k:=by omega
   have h2:=HL.out (j+1) (by omega);have hs2:Hid (5^(j+1)=n*5):=by show _=_;rw[Nat.pow_succ,hn.out]
   rw[hs2.out] at h2;go_wp2_with fail;go_roundg(k-(j+1));case measure=>omega
   case rel=>exact⟨j+1,n*5,by omega,by go_num,by go_num,rfl,hs2.out.symm,rfl⟩
  ·have e:j=k:=by omega
   subst e;have e:n=r:=by rw[R.out,hn.out]
   subst e;go_wp2_with fail;go_ret;exact⟨rfl,B1.out⟩
theorem vP(k:Nat)(w:World)(hk1:k≤17):Calls Tryz.prog 236 #[.int .i64 10,.int .i64 k] w (bW w (.int .i64 ((10^k:Nat):Int))):=by
 have hd:decide ((0:Int)≤k∧(k:Int)≤17)=true:=decide_eq_true ⟨by omega,by omega⟩;have HD:=AJ hd;clear hd;have hle: ∀j,j≤k→10^j≤100000000000000000:=fun j hj=>by have h1:10^j≤10^j:=Nat.pow_le_pow_left (by omega) j;have h2:10^j≤10^17:=Nat.pow_le_pow_right (by omega) (by omega);omega
 have HL:=AJ hle;clear hle;obtain⟨r,hr⟩: ∃r,r=10^k:=⟨_,rfl⟩;rw[←hr];have R:=AJ hr;clear hr;go_enter Tryz.func236,Tryz.ntmps236;go_wp2_with fail;refine(aP _ _ _ _).mono ?_;rintro e w1 ⟨rfl,hb1⟩;rw[HD.out];have B1:=AJ hb1;clear hb1;go_wp2_with fail;go_loopg[5,6] k (fun gk nn i wr=> ∃(j n:Nat),j≤k∧nn=.int .i64 n∧i=.int .i64 j∧gk=k-j∧Hid (n=10^j)∧wr=w1);case atStart=>exact⟨0,1,by omega,rfl,rfl,by omega,rfl,rfl⟩
 case round=>
  obtain⟨j,n,hj,rfl,rfl,rfl,hn,rfl⟩:=hrel;by_cases hlt:j<k
  ·have hi1:(j:Int)<k:=by omega
   have h2:=HL.out (j+1) (by omega);have hs2:Hid (10^(j+1)=n*10):=by show _=_;rw[Nat.pow_succ,hn.out]
   rw[hs2.out] at h2;go_wp2_with fail;go_roundg(k-(j+1));case measure=>omega
   case rel=>exact⟨j+1,n*10,by omega,by go_num,by go_num,rfl,hs2.out.symm,rfl⟩
  ·have e:j=k:=by omega
   subst e;have e:n=r:=by rw[R.out,hn.out]
   subst e;go_wp2_with fail;go_ret;exact⟨rfl,B1.out⟩
def rG(n x:Int)(b:Bool):Value:=.tuple #[.agg #[.int .i64 n,.int .i64 x],.bool b]
theorem dr{w w':World}(h:Below w.heap.size w w'){b:Nat}(hb:w.heap.size≤b)(u v:Value):Below w.heap.size w ((w'.setCell ⟨b,0,none⟩ u).setCell ⟨b,1,none⟩ v):=(h.setCell (p:=⟨b,0,none⟩) hb u).setCell (p:=⟨b,1,none⟩) hb v
theorem mS(n x:Int)(w:World)(hI:aT n)(hm:n.tmod 10≠0)(hd17:eU n≤17)(hx0: -16≤x)(hx1:x≤ -1):Calls Tryz.prog 235 #[.int .i64 n,.int .i64 x] w (bW w (rG n x true)):=by
 have P0:=AJ (ai.new w 108 #[.int .i64 0,.int .i64 0]);have B0:=AJ (ab (ae w) (.cells #[.int .i64 0,.int .i64 0] 108));have hok:aV n x=true:=by unfold aV;rw[if_neg (by omega)];simp[hm,hd17];omega
 have hd:decide (-40≤x∧x≤40)=true:=decide_eq_true ⟨by omega,by omega⟩;have hn0:(n==0)=false:=by simp;intro e;subst e;exact hm rfl
 have h1:(n.tmod 10==0)=false:=by simp[hm]
 obtain⟨q,hq⟩: ∃q,q=eU n:=⟨_,rfl⟩;rw[←hq] at hd17;have h17': ¬((17:Int)<q):=by omega
 have HI:=AJ (AH hI (AH hok (AH hd hq)));clear hI hok hd hq hm;go_enter Tryz.func235,Tryz.ntmps235;go_wp2_with fail;refine(iX n _ HI.out.1).mono ?_;rintro e w1 ⟨rfl,hb1⟩;rw[←HI.out.2.2.2];have P1:=AJ (P0.out.below hb1);have B1:=AJ (ak B0.out hb1);clear hb1;go_wp2_with fail;refine(aP _ _ _ _).mono ?_;rintro e w2 ⟨rfl,hb2⟩;rw[HI.out.2.2.1];have P2:=AJ (P1.out.below hb2);have B2:=AJ (ak B1.out hb2);clear hb2;go_wp2_with fail;go_loopg[0,1] 0 (fun gk nn xx wr=>nn=.int .i64 n∧xx=.int .i64 x∧wr=w2);case atStart=>exact⟨rfl,rfl,rfl⟩
 case round=>
  obtain⟨rfl,rfl,rfl⟩:=hrel;go_wp2_with fail;go_loopg[0,1] 0 (fun gk nn xx wr=>nn=.int .i64 n∧xx=.int .i64 x∧ai wr w.heap.size 108 #[.int .i64 0,.int .i64 0]∧Below w.heap.size w wr);case atStart=>exact⟨rfl,rfl,P2.out,B2.out⟩
  case round=>
   rename_i wr2;obtain⟨rfl,rfl,hP,hbel⟩:=hrel;have hzr:w.heap.size<wr.heap.size:=hP.lt;have HP:=AJ (AH hP hbel);clear hP hbel;have PX:=AJ (ai.new wr 108 #[.int .i64 n,.int .i64 x]);have hx': ¬(0<x):=by omega
   go_wp2_with fail;refine(bw n x _ HI.out.1).mono ?_;rintro e w3 ⟨rfl,hb3⟩;rw[HI.out.2.1];have P3:=AJ ((HP.out.1.alloc (.cells #[.int .i64 n,.int .i64 x] 108)).below hb3);have X3:=AJ (PX.out.below hb3);have B3:=AJ (ak (ab HP.out.2 _) hb3);clear hb3;have hz3:w.heap.size<w3.heap.size:=P3.out.lt;have hz4:wr.heap.size<w3.heap.size:=X3.out.lt;have n1:wr.heap.size≠w.heap.size:=by omega
   have n2:w.heap.size≠wr.heap.size:=by omega
   have f0:=P3.out.frozen 0;have f1:=P3.out.frozen 1;obtain⟨p0,p1⟩:=P3.out.c2;obtain⟨q0,q1⟩:=X3.out.c2;go_wp2_with fail;refine bodyPost_ret (v:=rG n x true) (by simp[results,rG,Tryz.results235,go_sem, *]<;>rfl) rfl ?_;exact⟨rfl,dr B3.out (Nat.le_refl _) _ _⟩
theorem sv{m:Int}{j:Nat}(h0: -65535≤m)(h1:m≤65535)(hodd:m.tmod 2≠0)(hj:1≤j)(hj2:j≤16):aT (m*(5^j:Nat))∧(m*(5^j:Nat)).tmod 10≠0∧eU (m*(5^j:Nat))≤17∧wrap64 (m*(5^j:Nat))=m*(5^j:Nat):=by
 have t2:(m.tmod 2).natAbs=m.natAbs%2:=by rw[Int.natAbs_tmod];rfl
 have h2:(5^j:Nat)≤5^16:=Nat.pow_le_pow_right (by omega) hj2;have hp:0<(5^j:Nat):=Nat.pow_pos (by omega);have ho:(5^j:Nat)%2=1:=by clear h2 hp hj hj2;induction j with|zero=>rfl|succ j ih=>rw[Nat.pow_succ];omega
 generalize(5^j:Nat)=q at h2 hp ho;have h4:m*q≤65535*152587890625:=by have h5:m*q≤65535*q:=Int.mul_le_mul_of_nonneg_right h1 (by omega);omega
 have h5: -65535*152587890625≤m*q:=by have h5: -65535*q≤m*q:=Int.mul_le_mul_of_nonneg_right h0 (by omega);omega
 have hmo:m%2=1:=by omega
 have hq2:(q:Int)%2=1:=by omega
 have hmq:(m*q)%2=1:=by rw[Int.mul_emod,hmo,hq2];rfl
 generalize m*(q:Int)=z at h4 h5 hmq;have t10:(z.tmod 10).natAbs=z.natAbs%10:=by rw[Int.natAbs_tmod];rfl
 refine⟨⟨by omega,by omega⟩,by omega,by rw[jy];omega,by unfold wrap64;omega⟩
theorem dD{m x:Int}(h:bh m x=true):(m=0∧x=0)∨(m≠0∧ -65535≤m∧m≤65535∧m.tmod 2≠0∧ -16≤x∧x≤45∧(x≤30∨(-65535≤m*2^(x-30).toNat∧m*2^(x-30).toNat≤65535))):=by
 unfold bh at h;by_cases hm:m=0;·rw[if_pos hm] at h;exact .inl ⟨hm,of_decide_eq_true h⟩
 ·rw[if_neg hm] at h;simp only[Bool.and_eq_true,Bool.or_eq_true,decide_eq_true_eq] at h;obtain⟨⟨⟨⟨h1,h2⟩,h3⟩,h4,h5⟩,h6⟩:=h;exact .inr ⟨hm,h1,h2,h3,h4,h5,h6⟩
theorem qo{m:Int}{j:Nat}(h:bh m j=true): -70368744177664<m*2^j∧m*2^j<70368744177664:=by
 rcases dD h with⟨rfl,h2⟩|⟨_,h1,h2,_,_,h5,h6⟩;·simp
 ·have hb: ∀(z:Int)(i:Nat),-65535≤z→z≤65535→i≤30→ -70368744177664<z*2^i∧z*2^i<70368744177664:=fun z i h1 h2 hi=>by(have h3:((2^i:Nat):Int)=(2:Int)^i:=by simp);have h4:(2:Nat)^i≤2^30:=Nat.pow_le_pow_right (by omega) hi;have h5:0<(2:Nat)^i:=Nat.pow_pos (by omega);have h6:z*2^i≤65535*2^i:=Int.mul_le_mul_of_nonneg_right h2 (by omega);have h7: -65535*2^i≤z*2^i:=Int.mul_le_mul_of_nonneg_right h1 (by omega);omega
  by_cases hj:j≤30;·exact hb m j h1 h2 hj
  ·have h7:=h6.resolve_left (by omega);have e:m*2^j=(m*2^((j:Int)-30).toNat)*2^30:=by rw[Int.mul_assoc,←Int.pow_add];congr 2;omega
   rw[e];exact hb _ 30 h7.1 h7.2 (Nat.le_refl _)
def ow(m x:Int):Value:=.agg #[.int .i64 (aI m x).1,.int .i64 (aI m x).2]
theorem fQ(m x:Int)(w:World)(hok:bh m x=true):Calls Tryz.prog 179 #[.agg #[.int .i64 m,.int .i64 x]] w (bW w (ow m x)):=by
 have B0:=AJ (ab (ab (ae w) (.cells #[.int .i64 m,.int .i64 x] 104)) (.cells #[.int .i64 0,.int .i64 0] 108));have P0:=AJ ((ai.new w 104 #[.int .i64 m,.int .i64 x]).alloc (.cells #[.int .i64 0,.int .i64 0] 108));have P1:=AJ (ai.at (w:=w.alloc (.cells #[.int .i64 m,.int .i64 x] 104)) (g:=w.heap.size+1) (t:=108) (cs:=#[.int .i64 0,.int .i64 0]) (by simp));have hI:aT m:=by rcases dD hok with⟨rfl,_⟩|⟨_,h1,h2,_⟩<;>exact⟨by omega,by omega⟩
 have hc:=dD hok;have HI:=AJ (AH hI (AH hok hc));unfold ow aI;by_cases hx:0≤x
 ·obtain⟨j,rfl⟩: ∃j:Nat,x=j:=⟨x.toNat,by omega⟩;have hb:=qo hok;have hw:wrap64 (m*2^j)=m*2^j:=by unfold wrap64;omega
  rw[if_pos hx,show((j:Int)).toNat=j by omega];have hj45:j≤45:=by rcases hc with h|h;(·omega);·have:=h.2.2.2.2.2.1;omega
  clear hI hok hc hb;go_enter Tryz.func179,Tryz.ntmps179;go_wp2_with fail;refine(cP m j _ HI.out.1).mono ?_;rintro e w1 ⟨rfl,hb1⟩;rw[HI.out.2.1];have Q0:=AJ (P0.out.below hb1);have Q1:=AJ (P1.out.below hb1);have B1:=AJ (ak B0.out hb1);clear hb1;have hz1:w.heap.size+1<w1.heap.size:=Q1.out.lt;obtain⟨p0,p1⟩:=Q0.out.c2;obtain⟨q0,q1⟩:=Q1.out.c2;have f0:=Q1.out.frozen 0;have f1:=Q1.out.frozen 1;go_wp2_with fail;refine bodyPost_ret (v:=.agg #[.int .i64 (m*2^j),.int .i64 0]) (by simp[results,Tryz.results179,go_sem, *]<;>rfl) rfl ?_;exact⟨rfl,dr B1.out (by omega) _ _⟩
 ·rw[if_neg hx];obtain⟨j,hj⟩: ∃j:Nat,-x=j:=⟨(-x).toNat,by omega⟩;have hn:=hc.resolve_left (fun h=>by omega);have hnear:=sv hn.2.1 hn.2.2.1 hn.2.2.2.1 (j:=j) (by omega) (by have:=hn.2.2.2.2.1;omega);rw[show(-x).toNat=j by omega];have hxj:x= -(j:Int):=by omega
  have hj16:j≤16:=by have:=hn.2.2.2.2.1;omega
  have hj1:1≤j:=by omega
  obtain⟨q,hq⟩: ∃q:Nat,q=5^j:=⟨_,rfl⟩;have hq2:m*5^j=m*(q:Int):=by rw[hq];simp
  rw[hq2];rw[←hq] at hnear;have hwq:IntKind.i64.wrap (m*(q:Int))=m*(q:Int):=by rw[IntKind.wrap_i64];have:=hnear.1.1;have:=hnear.1.2;omega
  have hwx:IntKind.i64.wrap (-x)=(j:Int):=by rw[IntKind.wrap_i64];omega
  have hx':x<0:=by omega
  have hPow: ∀w,Calls Tryz.prog 236 #[.int .i64 5,.int .i64 (j:Int)] w (bW w (.int .i64 (q:Int))):=fun w=>by rw[hq];exact wK j w (by omega)
  have HP:=AJ hPow;have hxr: -16≤x∧x≤ -1:=⟨by omega,by omega⟩;have HN:=AJ (AH hnear hxr);clear hI hok hc hn hnear hPow hq hq2 hxj hj16 hj1 hj hx hxr;go_enter Tryz.func179,Tryz.ntmps179;go_wp2_with fail;refine(cP m x _ HI.out.1).mono ?_;rintro e w1 ⟨rfl,hb1⟩;rw[HI.out.2.1];have Q0:=AJ (P0.out.below hb1);have Q1:=AJ (P1.out.below hb1);have B1:=AJ (ak B0.out hb1);clear hb1;have hz1:w.heap.size+1<w1.heap.size:=Q1.out.lt;obtain⟨p0,p1⟩:=Q0.out.c2;obtain⟨q0,q1⟩:=Q1.out.c2;have f0:=Q1.out.frozen 0;have f1:=Q1.out.frozen 1;have hb0:w.heap.size<w1.heap.size:=by omega
  have m1:w.heap.size≠w1.heap.size:=by omega
  have m1':w1.heap.size≠w.heap.size:=by omega
  go_wp2_with fail;go_cut[3,4] from 19 to 30 (fun s3 s4 wx=> ∃gy,s3=.pointer (some ⟨gy,0,none⟩)∧s4=.bool true∧w1.heap.size≤gy∧ai wx gy 108 #[.int .i64 (m*(q:Int)),.int .i64 x]∧Below w1.heap.size w1 wx)
  case first=>
   go_region_held3(fun u=>u.cell? ⟨w.heap.size,0,none⟩=some (.int .i64 m)∧u.cell? ⟨w.heap.size,1,none⟩=some (.int .i64 x)) (go_keep) (first|(go_at_call 236;(refine(HP.out _).mono ?_;rintro e w3 ⟨rfl,hb3⟩;have HB3:=AJ (show Below w1.heap.size w1 w3 from(by first|exact ak (ae w1).drew hb3|exact ak (ab (ae w1) _).drew hb3));have i0:=(HB3.out.cell (p:=⟨w.heap.size,_,none⟩) hb0).trans p0;have i1:=(HB3.out.cell (p:=⟨w.heap.size,_,none⟩) hb0).trans p1;have HR3:=AJ hb3;obtain⟨hc3,hf3⟩:=ig hb3;have hs3:=hb3.size;(try simp at hs3);(try have hs3':w1.heap.size<w3.heap.size:=(by omega));have hz3:w1.heap.size≤w3.heap.size:=HB3.out.size;have m3:w.heap.size≠w3.heap.size:=(by omega);have m3':w3.heap.size≠w.heap.size:=(by omega);clear hb3))|(go_at_call 235;(refine(mS _ x _ HN.out.1.1 HN.out.1.2.1 HN.out.1.2.2.1 HN.out.2.1 HN.out.2.2).mono ?_;rintro e w4 ⟨rfl,hb4⟩;unfold rG;have HB4:=AJ (show Below w1.heap.size w1 w4 from(by first|exact ak HB3.out hb4|exact ak (ab HB3.out _) hb4));have j0:=(HB4.out.cell (p:=⟨w.heap.size,_,none⟩) hb0).trans p0;have j1:=(HB4.out.cell (p:=⟨w.heap.size,_,none⟩) hb0).trans p1;have HR4:=AJ hb4;obtain⟨hc4,hf4⟩:=ig hb4;have hs4:=hb4.size;(try simp at hs4);(try have hs4':w3.heap.size<w4.heap.size:=(by omega));(try have hs4'':w1.heap.size<w4.heap.size:=(by omega));have hz4:w1.heap.size≤w4.heap.size:=HB4.out.size;have m4:w.heap.size≠w4.heap.size:=(by omega);have m4':w4.heap.size≠w.heap.size:=(by omega);clear hb4)));·go_wp2_with fail;go_meet;exact⟨w4.heap.size,rfl,rfl,hz4,ai.at rfl,ab HB4.out _⟩
   ·go_wp2_with fail;go_meet;refine⟨w3.heap.size,rfl,rfl,hz3,((((ai.new w3 _ _).below HR4.out).cF 0 _).cF 1 _),(HB4.out.setCell (p:=⟨w3.heap.size,0,none⟩) hz3 _).setCell (p:=⟨w3.heap.size,1,none⟩) hz3 _⟩
   ·go_wp2_with fail;go_meet;refine⟨w1.heap.size,rfl,rfl,Nat.le_refl _,(((((ai.new w1 _ _).drew.below HR3.out).below HR4.out).cF 0 _).cF 1 _),dr HB4.out (Nat.le_refl _) _ _⟩
  case rest=>
   obtain⟨gy,rfl,rfl,hgy,hY,hbx⟩:=hcut;obtain⟨y0,y1⟩:=hY.c2;have R1:=Q1.out.below hbx;have hz2:w.heap.size+1<wc.heap.size:=R1.lt;have g0:=R1.frozen 0;have g1:=R1.frozen 1;obtain⟨r0,r1⟩:=R1.c2;have n1:gy≠w.heap.size+1:=by omega
   have n2:w.heap.size+1≠gy:=by omega
   have HX:=AJ (ak B1.out hbx);clear hbx hY p0 p1 q0 q1 f0 f1;go_wp2_with fail;refine bodyPost_ret (v:=.agg #[.int .i64 (m*(q:Int)),.int .i64 x]) (by simp[results,Tryz.results179,go_sem, *]<;>rfl) rfl ?_;exact⟨rfl,dr HX.out (by omega) _ _⟩
def bo:Option (Int×Int)→Value|some (m,e)=>.tuple #[.agg #[.int .i64 m,.int .i64 e],.bool true]|none=>.tuple #[.agg #[.int .i64 0,.int .i64 0],.bool false]
theorem eH(m e:Int)(w:World)(hm:m.natAbs≤65536)(he0: -20≤e)(he1:e≤60):Calls Tryz.prog 349 #[.int .i64 m,.int .i64 e] w (bW w (bo (bz m e))):=by
 have P0:=AJ (ai.new w 104 #[.int .i64 0,.int .i64 0]);have B0:=AJ (ab (ae w) (.cells #[.int .i64 0,.int .i64 0] 104));have D1:=AJ (show decide (-1000000000000000≤m∧m≤1000000000000000)=true from decide_eq_true ⟨by omega,by omega⟩);have D2:=AJ (show decide (-100≤e∧e≤100)=true from decide_eq_true ⟨by omega,by omega⟩);obtain⟨r,hr⟩: ∃r,r=bz m e:=⟨_,rfl⟩;rw[←hr];unfold bz at hr;by_cases hm0:m=0;·rw[if_pos hm0] at hr;subst hm0 hr;go_enter Tryz.func349,Tryz.ntmps349;go_wp2_with fail;refine(aP _ _ _ _).mono ?_;rintro e w1 ⟨rfl,hb1⟩;rw[D1.out];have P1:=AJ (P0.out.below hb1);have B1:=AJ (ak B0.out hb1);clear hb1;go_wp2_with fail;refine(aP _ _ _ _).mono ?_;rintro e w2 ⟨rfl,hb2⟩;rw[D2.out];have P2:=AJ (P1.out.below hb2);have B2:=AJ (ak B1.out hb2);clear hb2;have hz2:w.heap.size<w2.heap.size:=P2.out.lt;have f0:=P2.out.frozen 0;have f1:=P2.out.frozen 1;obtain⟨p0,p1⟩:=P2.out.c2;go_wp2_with fail;refine bodyPost_ret (v:=bo (some (0,0))) (by simp[results,bo,Tryz.results349,go_sem, *]<;>rfl) rfl ?_;exact⟨rfl,dr B2.out (Nat.le_refl _) _ _⟩
 ·rw[if_neg hm0] at hr;have hmb:(m==0)=false:=by simp[hm0]
  have R:=AJ (AH hr (AH hm0 (AH hm (AH he0 he1))));clear hr hm0 he0 he1;go_enter Tryz.func349,Tryz.ntmps349;go_wp2_with fail;refine(aP _ _ _ _).mono ?_;rintro e1 w1 ⟨rfl,hb1⟩;rw[D1.out];have P1:=AJ (P0.out.below hb1);have B1:=AJ (ak B0.out hb1);clear hb1;go_wp2_with fail;refine(aP _ _ _ _).mono ?_;rintro e1 w2 ⟨rfl,hb2⟩;rw[D2.out];have P2:=AJ (P1.out.below hb2);have B2:=AJ (ak B1.out hb2);clear hb2;go_wp2_with fail;go_loopg[0,1] m.natAbs (fun gk nn xx wr=> ∃(m' e':Int) (f:Nat),nn=.int .i64 m'∧xx=.int .i64 e'∧gk=m'.natAbs∧m'≠0∧m'.natAbs≤65536∧ -20≤e'∧e'+f≤80∧Hid (m'.natAbs<2^f∧ef f m' e'=ef 20 m e)∧wr=w2);case atStart=>exact⟨m,e,20,rfl,rfl,rfl,R.out.2.1,R.out.2.2.1,R.out.2.2.2.1,by have:=R.out.2.2.2.2;omega,⟨by have:=R.out.2.2.1;omega,rfl⟩,rfl⟩
  case round=>
   obtain⟨m',e',f,rfl,rfl,rfl,hn0,hn1,he0,he1,hf,rfl⟩:=hrel;by_cases h2:m'.tmod 2=0
   ·have h2b:(m'.tmod 2==0)=true:=by simp[h2]
    have h3:=kx h2;have h4:=lN m';obtain⟨f',rfl⟩: ∃f',f=f'+1:=⟨f-1,by rcases Nat.eq_zero_or_pos f with h|h;(·subst h;have:=hf.out.1;simp at this;omega);·omega⟩;have hf2:Hid ((m'.tdiv 2).natAbs<2^f'∧ef f' (m'.tdiv 2) (e'+1)=ef 20 m e):=by refine⟨?_,?_⟩;(·have:=hf.out.1;rw[Nat.pow_succ] at this;omega);·rw[←hf.out.2,gM h2]
    have h5:m'.tdiv 2≠0:=by omega
    have h6:(m'.tdiv 2).natAbs≤65536:=by omega
    have h7:(m'.tdiv 2).natAbs<m'.natAbs:=by omega
    clear h2 h3 h4;go_wp2_with fail;go_roundg(m'.tdiv 2).natAbs;case measure=>exact h7
    case rel=>exact⟨_,e'+1,f',rfl,by go_num,rfl,h5,h6,by omega,by omega,hf2,rfl⟩
   ·have h2b:(m'.tmod 2==0)=false:=by simp[h2]
    have ho:=kW (e:=e') h2 f;rw[hf.out.2] at ho;have hr:=R.out.1;rw[ho] at hr;have hI:aT m':=⟨by omega,by omega⟩;have PX:=AJ (ai.new wr 104 #[.int .i64 m',.int .i64 e']);have HR:=AJ (AH hr hI);clear hr ho h2 hI;go_wp2_with fail;refine(cP m' e' _ HR.out.2).mono ?_;rintro e1 w3 ⟨rfl,hb3⟩;have P3:=AJ ((P2.out.alloc (.cells #[.int .i64 m',.int .i64 e'] 104)).below hb3);have X3:=AJ (PX.out.below hb3);have B3:=AJ (ak (ab B2.out _) hb3);clear hb3;have hz3:w.heap.size<w3.heap.size:=P3.out.lt;have hz4:wr.heap.size<w3.heap.size:=X3.out.lt;have hz5:w.heap.size<wr.heap.size:=P2.out.lt;have n1:wr.heap.size≠w.heap.size:=by omega
    have n2:w.heap.size≠wr.heap.size:=by omega
    have f0:=P3.out.frozen 0;have f1:=P3.out.frozen 1;obtain⟨p0,p1⟩:=P3.out.c2;obtain⟨q0,q1⟩:=X3.out.c2;cases hok:bh m' e'
    ·have hr2:r=none:=by rw[HR.out.1];simp[hok]
     subst hr2;go_wp2_with fail;refine bodyPost_ret (v:=bo none) (by simp[results,bo,Tryz.results349,go_sem, *]<;>rfl) rfl ?_;exact⟨rfl,dr B3.out (Nat.le_refl _) _ _⟩
    ·have hr2:r=some (m',e'):=by rw[HR.out.1];simp[hok]
     subst hr2;go_wp2_with fail;refine bodyPost_ret (v:=bo (some (m',e'))) (by simp[results,bo,Tryz.results349,go_sem, *]<;>rfl) rfl ?_;exact⟨rfl,dr B3.out (Nat.le_refl _) _ _⟩
def zB(A p:Nat):Value:=.tuple #[.int .i64 (A/p:Nat),.int .i64 (if 2*(A%p)<p then-1 else if p<2*(A%p) then 1 else 0),.bool (if 2*(A%p)<p then decide (0<A%p) else true)]
theorem kO(a p:Nat){k s:Nat}(h:k≤s):a*2^k/p≤a*2^s/p:=Nat.div_le_div_right (Nat.mul_le_mul_left _ (Nat.pow_le_pow_right (by omega) h))
theorem iT(a p s:Nat)(w:World)(hp:0<p)(hp2:p≤100000000000000000)(hs:s≤40)(ha:a≤1000000000000000000)(hq:a*2^s/p≤1125899906842624):Calls Tryz.prog 348 #[.int .i64 a,.int .i64 p,.int .i64 s] w (bW w (zB (a*2^s) p)):=by
 have h1:(a:Int).tdiv p=((a/p:Nat):Int):=by rw[Int.tdiv_eq_ediv_of_nonneg (by omega)];rfl
 have h2:(a:Int).tmod p=((a%p:Nat):Int):=by rw[Int.tmod_eq_emod_of_nonneg (by omega)];rfl
 have hp0:(p:Int)≠0:=by omega
 have hp3:(0:Int)<p:=by omega
 have hlt:a%p<p:=Nat.mod_lt _ hp;have hq0:a/p≤1125899906842624:=by have:=kO a p (Nat.zero_le s);simp at this;omega
 obtain⟨V,hV⟩: ∃V,V=zB (a*2^s) p:=⟨_,rfl⟩;rw[←hV];obtain⟨q,hq'⟩: ∃q,q=a/p:=⟨_,rfl⟩;obtain⟨r,hr'⟩: ∃r,r=a%p:=⟨_,rfl⟩;rw[←hq'] at h1 hq0;rw[←hr'] at h2 hlt;have HV:=AJ (AH hV (AH hq' (AH hr' (AH hq hp))));clear hV hq' hr' hq hp;go_enter Tryz.func348,Tryz.ntmps348;go_wp2_with fail;go_loopg[9,10,11] s (fun gk u9 u10 u11 wr=> ∃k q r:Nat,u9=.int .i64 q∧u10=.int .i64 r∧u11=.int .i64 k∧gk=s-k∧k≤s∧r<p∧q≤1125899906842624∧Hid (q=a*2^k/p∧r=a*2^k%p)∧wr=w);case atStart=>exact⟨0,q,r,rfl,rfl,rfl,rfl,by omega,hlt,hq0,⟨by rw[Nat.pow_zero,Nat.mul_one];exact HV.out.2.1,by rw[Nat.pow_zero,Nat.mul_one];exact HV.out.2.2.1⟩,rfl⟩
 case round=>
  clear h1 h2 hlt hq0;obtain⟨k,q,r,rfl,rfl,rfl,rfl,hk,hrp,hq0,hqr,rfl⟩:=hrel;by_cases hks:k<s
  ·have hd:=Az (a*2^k) p HV.out.2.2.2.2;have he:2*(a*2^k)=a*2^(k+1):=by rw[Nat.pow_succ,Nat.mul_comm 2,Nat.mul_assoc]
   have hm:=kO a p (k:=k+1) (s:=s) hks;have hm2:=HV.out.2.2.2.1;rw[he,←hqr.out.1,←hqr.out.2] at hd;have hi1:(k:Int)<s:=by omega
   by_cases hge:p≤2*r
   ·obtain⟨d1,d2⟩:=hd.1 hge;have hge':(p:Int)≤2*r:=by omega
    have HD:=AJ (AH d1 d2);rw[d1] at hm;have hq2:2*q+1≤1125899906842624:=by omega
    clear hd d1 d2 hm hm2 he;go_wp2_with fail;go_roundg(s-(k+1));case measure=>omega
    case rel=>exact⟨k+1,2*q+1,2*r-p,by go_num,by congr 1;omega,by go_num,rfl,by omega,by omega,hq2,⟨HD.out.1.symm,HD.out.2.symm⟩,rfl⟩
   ·obtain⟨d1,d2⟩:=hd.2 hge;have hge': ¬((p:Int)≤2*r):=by omega
    have HD:=AJ (AH d1 d2);rw[d1] at hm;have hq2:2*q≤1125899906842624:=by omega
    clear hd d1 d2 hm hm2 he;go_wp2_with fail;go_roundg(s-(k+1));case measure=>omega
    case rel=>exact⟨k+1,2*q,2*r,by go_num,by go_num,by go_num,rfl,by omega,by omega,hq2,⟨HD.out.1.symm,HD.out.2.symm⟩,rfl⟩
  ·have e:k=s:=by omega
   subst e;have hV:=HV.out.1;unfold zB at hV;rw[←hqr.out.1,←hqr.out.2] at hV;by_cases c1:2*r<p
   ·have c1':(2:Int)*r<p:=by omega
    rw[if_pos c1,if_pos c1] at hV;have hb:decide ((0:Int)<r)=decide (0<r):=by simp
    have HV2:=AJ (AH hV hb);clear hV hb;go_wp2_with fail;refine bodyPost_ret (v:=.tuple #[.int .i64 q,.int .i64 (-1),.bool (decide ((0:Int)<r))]) (by simp[results,Tryz.results348,go_sem, *]<;>rfl) rfl ?_;exact⟨by rw[HV2.out.1,←HV2.out.2],ae _⟩
   ·rw[if_neg c1,if_neg c1] at hV;have c1': ¬((2:Int)*r<p):=by omega
    by_cases c2:p<2*r
    ·have c2':(p:Int)<2*r:=by omega
     rw[if_pos c2] at hV;have HV2:=AJ hV;clear hV;go_wp2_with fail;refine bodyPost_ret (v:=.tuple #[.int .i64 q,.int .i64 1,.bool true]) (by simp[results,Tryz.results348,go_sem, *]<;>rfl) rfl ?_;exact⟨by rw[HV2.out],ae _⟩
    ·have c2': ¬((p:Int)<2*r):=by omega
     rw[if_neg c2] at hV;have HV2:=AJ hV;clear hV;go_wp2_with fail;refine bodyPost_ret (v:=.tuple #[.int .i64 q,.int .i64 0,.bool true]) (by simp[results,Tryz.results348,go_sem, *]<;>rfl) rfl ?_;exact⟨by rw[HV2.out],ae _⟩
theorem qI{n x:Int}(h:aV n x=true): -100000000000000000<n∧n<100000000000000000∧ -16≤x∧x≤0:=by
 unfold aV at h;split at h;·simp only[decide_eq_true_eq] at h;omega
 ·simp only[Bool.and_eq_true,decide_eq_true_eq] at h;have:=(jy n).1 h.1.2;omega
def eR(n x:Int):Bool:=match eL n x with|none=>false|some (m,e)=>decide (aI m e=(n,x))
theorem mo{n x:Int}(h:eL n x=none):eR n x=false:=by
 unfold eR;rw[h]
theorem gh{n x m e:Int}(h:eL n x=some (m,e)):eR n x=decide (aI m e=(n,x)):=by
 unfold eR;rw[h]
def aW(k n x:Int)(s:ByteArray):Value:=.agg #[.int .i64 k,.int .i64 n,.int .i64 x,.string s,.slice none 0 0]
theorem vF:Tryz.prog.underlying 108=some (.struct (Tryz.prog.fieldsOf 108)):=by
 kernel_rfl
theorem wZ:Tryz.prog.stoodInHeld 108=false:=by
 kernel_rfl
theorem uA(a b n x:Int)(w:World):(binOp .eql 108 (.agg #[.int .i64 a,.int .i64 b]) (.agg #[.int .i64 n,.int .i64 x])).run Tryz.prog w=.ok (.bool (decide ((a,b)=(n,x)))) w:=by
 have e:decide ((a,b)=(n,x))=(decide (a=n)&&decide (b=x)):=by simp
 rw[e];simp only[binOp];simp[Op.equal,Op.maxDepth,run_equalIn_struct w 9999 108 _ _ vF wZ,go_sem];by_cases h1:a=n<;>by_cases h2:b=x<;>simp[h1,h2]
theorem cE{w w':World}(h:Below w.heap.size w w'){b:Nat}(hb:w.heap.size≤b)(u0 u1 u2 u3 u4:Value):Below w.heap.size w (((((w'.setCell ⟨b,0,none⟩ u0).setCell ⟨b,1,none⟩ u1).setCell ⟨b,2,none⟩ u2).setCell ⟨b,3,none⟩ u3).setCell ⟨b,4,none⟩ u4):=((((h.setCell (p:=⟨b,0,none⟩) hb u0).setCell (p:=⟨b,1,none⟩) hb u1).setCell (p:=⟨b,2,none⟩) hb u2).setCell (p:=⟨b,3,none⟩) hb u3).setCell (p:=⟨b,4,none⟩) hb u4
theorem SB.bE{α:Type}[aD α]{base b:Nat}{w:World}{l:List α}{A:Option Addr}{c:Nat}(h:SB base w l A c)(hb:b<base)(v0 v1 v2 v3 v4:Value):SB base (((((w.setCell ⟨b,0,none⟩ v0).setCell ⟨b,1,none⟩ v1).setCell ⟨b,2,none⟩ v2).setCell ⟨b,3,none⟩ v3).setCell ⟨b,4,none⟩ v4) l A c:=((((h.set hb ⟨b,0,none⟩ rfl v0).set hb ⟨b,1,none⟩ rfl v1).set hb ⟨b,2,none⟩ rfl v2).set hb ⟨b,3,none⟩ rfl v3).set hb ⟨b,4,none⟩ rfl v4
end Go.Proofs.YtodpdjehjllhdaaGreatDoor
