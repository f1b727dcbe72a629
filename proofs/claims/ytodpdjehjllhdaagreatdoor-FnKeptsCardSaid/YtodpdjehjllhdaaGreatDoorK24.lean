/- Part of a proof: contracts and plain laws. -/
import Derived.Test.YtodpdjehjllhdaaGreatDoorK23
set_option linter.unusedVariables false
set_option linter.unusedSimpArgs false
set_option maxRecDepth 100000
set_option maxHeartbeats 20000000
namespace Go.Proofs.YtodpdjehjllhdaaGreatDoor
open Go.RowKit
theorem sK(k:Nat)(w:World)(hk1:k≤17):Calls Tryz.prog 252 #[.int .i64 10,.int .i64 k] w (fV w (.int .i64 ((10^k:Nat):Int))):=by
 have hle: ∀j,j≤k→10^j≤100000000000000000:=fun j hj=>by have h1:10^j≤10^j:=Nat.pow_le_pow_left (by omega) j;have h2:10^j≤10^17:=Nat.pow_le_pow_right (by omega) (by omega);omega
 have HL:=Ad hle;clear hle;obtain⟨r,hr⟩: ∃r,r=10^k:=⟨_,rfl⟩;rw[←hr];have R:=Ad hr;clear hr;go_enter Tryz.func252,Tryz.ntmps252;go_wp2_with fail;go_loopg[5,7] k (fun gk nn i wr=> ∃(j n:Nat),j≤k∧nn=.int .i64 n∧i=.int .i64 j∧gk=k-j∧Hid (n=10^j)∧wr=w);case atStart=>exact⟨0,1,by omega,rfl,rfl,by omega,rfl,rfl⟩
 case round=>
  obtain⟨j,n,hj,rfl,rfl,rfl,hn,rfl⟩:=hrel;by_cases hlt:j<k
  ·have hi1:(j:Int)<k:=by omega
   have h2:=HL.out (j+1) (by omega);have hs2:Hid (10^(j+1)=n*10):=by show _=_;rw[Nat.pow_succ,hn.out]
   rw[hs2.out] at h2;go_wp2_with fail;go_roundg(k-(j+1));case measure=>omega
   case rel=>exact⟨j+1,n*10,by omega,by go_num,by go_num,rfl,hs2.out.symm,rfl⟩
  ·have e:j=k:=by omega
   subst e;have e:n=r:=by rw[R.out,hn.out]
   subst e;go_wp2_with fail;go_ret;exact⟨rfl,0,rfl⟩
theorem vu{a p:Nat}{e:Int}(hp:0<p)(hp1:p≤10000000000000000)(ha:a<100000000000000000)(h: ∀e',-16≤e'→e'<e→65535<gD a p e'):fC p e≤10000000000000000:=by
 by_cases he:e≤0;·unfold fC;rw[show e.toNat=0 by omega,Nat.pow_zero,Nat.mul_one];exact hp1
 ·obtain⟨j,rfl⟩: ∃j:Nat,e=(j:Int)+1:=⟨(e-1).toNat,by omega⟩;have h1:=h j (by omega) (by omega);rw[jI,Nat.div_div_eq_div_mul] at h1;have h2:65536≤a/(p*2^j):=h1;have hpj:0<p*2^j:=Nat.mul_pos hp (Nat.pow_pos (by decide));rw[Nat.le_div_iff_mul_le hpj] at h2;unfold fC;rw[show((j:Int)+1).toNat=j+1 by omega,Nat.pow_succ,←Nat.mul_assoc];generalize p*2^j=z at h2;omega
theorem least_le{a p:Nat}{e:Int}(hp:0<p)(ha:a<100000000000000000)(h: ∀e',-16≤e'→e'<e→65535<gD a p e'):e≤42:=by
 apply Int.le_of_not_gt;intro hc;have h1:=h 42 (by decide) hc;have h2:gD a p 42≤a/2^42:=by rw[show(42:Int)=((42:Nat):Int) from rfl,jI];exact Nat.div_le_div_right (Nat.div_le_self a p)
 have h3:a/2^42≤22737:=by omega
 omega
theorem dW(n x:Int)(w:World)(ht:qC w)(hok:aZ n x=true)(hn0: -100000000000000000<n)(hn1:n<100000000000000000)(hx0: -16≤x)(hx1:x≤0):Calls Tryz.prog 249 #[.agg #[.int .i64 n,.int .i64 x]] w (bN w (br (eM n x))):=by
 have HT:=Ad ht;clear ht;have B0:=Ad (ab (ab (ae w) (.cells #[.int .i64 n,.int .i64 x] 108)) (.cells #[.int .i64 0,.int .i64 0] 104));have P0:=Ad ((aj.new w 108 #[.int .i64 n,.int .i64 x]).alloc (.cells #[.int .i64 0,.int .i64 0] 104));have P1:=Ad (aj.at (w:=w.alloc (.cells #[.int .i64 n,.int .i64 x] 108)) (g:=w.heap.size+1) (t:=104) (cs:=#[.int .i64 0,.int .i64 0]) (by simp));obtain⟨k,hk⟩: ∃k:Nat,-x=k:=⟨(-x).toNat,by omega⟩;obtain⟨p,hp⟩: ∃p,p=10^k:=⟨_,rfl⟩;obtain⟨a,ha⟩: ∃a,a=n.natAbs:=⟨_,rfl⟩;obtain⟨r,hr⟩: ∃r,r=eM n x:=⟨_,rfl⟩;rw[←hr];have hp0:0<p:=by rw[hp];exact Nat.pow_pos (by omega)
 have hp1:p≤10000000000000000:=by have:10^k≤10^16:=Nat.pow_le_pow_right (by omega) (by omega);omega
 have hPow: ∀w,Calls Tryz.prog 252 #[.int .i64 10,.int .i64 (k:Int)] w (fV w (.int .i64 (p:Int))):=fun w=>by rw[hp];exact sK k w (by omega)
 have hI:a8 n:=⟨by omega,by omega⟩;have hrr: ∀e,gh a p e→ -16≤e→e≤50→r=bB (mh n (dQ a p e)) e:=fun e h0 h1 h2=>by(have hkx:(-x).toNat=k:=by omega);rw[hr,rP (by rw[hkx,←hp,←ha];exact h0) h1 h2,hkx,←hp];unfold uu;rw[←ha]
 have HI:=Ad (Ac hI (Ac hok (Ac hPow (Ac hrr ha))));clear hI hok hPow hrr hr hp;have ha1:a<100000000000000000:=by omega
 have hmx:max n (-n)=(a:Int):=by omega
 have hnn:IntKind.i64.wrap (-n)= -n:=by rw[IntKind.wrap_i64];omega
 clear ha;have hnx:IntKind.i64.wrap (-x)=(k:Int):=by rw[IntKind.wrap_i64];omega
 have hau:=bm (show a<18446744073709551616 by omega);have hpu:=bm (show p<18446744073709551616 by omega);go_enter Tryz.func249,Tryz.ntmps249;go_wp2_with fail;refine(fj n x _ HI.out.1 (HT.out.below B0.out)).mono ?_;rintro e w1 ⟨rfl,hb1⟩;rw[HI.out.2.1];have Q0:=Ad (P0.out.below hb1);have Q1:=Ad (P1.out.below hb1);have B1:=Ad (ai B0.out hb1);clear hb1;have hz1:w.heap.size+1<w1.heap.size:=Q1.out.lt;obtain⟨p0,p1⟩:=Q0.out.c2;go_wp2_with fail;go_cut[4,5] (fun s4 s5 wx=>s4=.int .u64 (a:Int)∧s5=.int .u64 (p:Int)∧Below w1.heap.size w1 wx);case first=>have Q:=Ad (yN fun n=>HI.out.2.2.1 (w1.drewN n));go_quiet((go_at_call 252;exact Q.out _));go_wp2_with fail;go_meet;exact⟨by simp[hau,hmx],by simp[hpu],below_drewN (ae w1) _⟩
 case rest=>
  obtain⟨rfl,rfl,hb2⟩:=hcut;have R0:=Ad (Q0.out.below hb2);have R1:=Ad (Q1.out.below hb2);have B2:=Ad (ai B1.out hb2);clear hb2 p0 p1 hau hpu hmx hnn hnx;go_wp2_with fail;go_loopg[6] 66 (fun gk u6 wr=> ∃e:Int,u6=.int .i64 e∧ -16≤e∧e≤42∧gk=(50-e).toNat∧Hid (∀e',-16≤e'→e'<e→65535<gD a p e')∧aj wr w.heap.size 108 #[.int .i64 n,.int .i64 x]∧aj wr (w.heap.size+1) 104 #[.int .i64 0,.int .i64 0]∧Below w.heap.size w wr);case atStart=>exact⟨-16,rfl,by decide,by decide,rfl,fun e' h1 h2=>by omega,R0.out,R1.out,B2.out⟩
  case round=>
   obtain⟨e,rfl,he0,he1,rfl,hes,hR0,hR1,hbel⟩:=hrel;have hden:=vu hp0 hp1 ha1 hes.out;have HX:=Ad (Ac hR0 (Ac hR1 hbel));clear hR0 hR1 hbel;have he50:e≤50:=by omega
   go_upto_if 35 with fail;go_cut[7,8] (fun s7 s8 wx=> ∃up dn:Nat,s7=.int .u64 up∧s8=.int .u64 dn∧up≤16∧Hid (a*2^up=l7 a e∧p*dn=fC p e)∧wx=wr)
   case first=>
    by_cases hneg:e<0
    ·obtain⟨s,hs⟩: ∃s:Nat,-e=s:=⟨(-e).toNat,by omega⟩;have hsw:IntKind.i64.wrap (-e)=(s:Int):=by rw[IntKind.wrap_i64];omega
     have hsu:=bm (show s<18446744073709551616 by omega);have hs16:s≤16:=by omega
     have hnd:Hid (a*2^s=l7 a e∧p*1=fC p e):=by unfold l7 fC;exact⟨by rw[show(-e).toNat=s by omega],by rw[show e.toNat=0 by omega,Nat.pow_zero]⟩
     go_wp2_with fail;go_meet;exact⟨s,1,by simp[hsu],rfl,hs16,hnd,rfl⟩
    ·obtain⟨j,rfl⟩: ∃j:Nat,e=j:=⟨e.toNat,by omega⟩;have hj64:min j 64=j:=by omega
     have hju:=bm (show j<18446744073709551616 by omega);obtain⟨dn,hdn,hdni⟩: ∃dn:Nat,dn=2^j∧(2:Int)^j=(dn:Int):=⟨_,rfl,by simp⟩;have hdw:=bm (show dn<18446744073709551616 by rw[hdn];exact Nat.lt_of_le_of_lt (Nat.pow_le_pow_right (by decide) (show j≤42 by omega)) (by decide));have hnd:Hid (a*2^0=l7 a j∧p*dn=fC p j):=by unfold l7 fC;exact⟨by rw[show(-(j:Int)).toNat=0 by omega],by rw[hdn,Int.toNat_natCast]⟩
     have HD:=Ad (Ac hdni hdw);clear hdn hdni hdw;go_wp2_with fail;go_meet;exact⟨0,dn,rfl,by simp only[HD.out.1,HD.out.2,Int.one_mul],by decide,hnd,rfl⟩
   case rest=>
    rename_i wc2;obtain⟨up,dn,rfl,rfl,hup,hnd,rfl⟩:=hcut;obtain⟨D,hD⟩: ∃D,D=p*dn:=⟨_,rfl⟩;obtain⟨Nu,hNu⟩: ∃N,N=a*2^up:=⟨_,rfl⟩;have hDe:D=fC p e:=by rw[hD];exact hnd.out.2
    have hNe:Nu=l7 a e:=by rw[hNu];exact hnd.out.1
    have hDl:D≤10000000000000000:=by rw[hDe];exact hden
    have hD0:0<D:=by rw[hDe];exact Nat.mul_pos hp0 (Nat.pow_pos (by decide))
    have hdn1:dn≤D:=by rw[hD];exact Nat.le_mul_of_pos_left _ hp0
    have hqe:gD a p e=Nu/D:=by unfold gD;rw[hNe,hDe]
    have hrde:wg a p e=Nu%D∧fC p e=D:=by unfold wg;rw[hNe,hDe];exact⟨rfl,rfl⟩
    have hMu:=fun w=>Tryz.bits_Mul64 p dn (by omega) (by omega) w;have hDw:IntKind.u64.wrap ((p:Int)*dn)=(D:Int):=by rw[show(p:Int)*dn=(D:Int) by rw[hD];simp];exact bm (by omega)
    rw[←hD,Nat.div_eq_of_lt (show D<18446744073709551616 by omega)] at hMu;obtain⟨lw,hlw⟩: ∃l,l=D%18446744073709551616:=⟨_,rfl⟩;rw[←hlw] at hMu;have hSh:=fun w=>sv a up D w (by omega) (by omega) hD0 (by omega);rw[←hNu] at hSh;have HM:=Ad (Ac hMu hSh);have HQ:=Ad (Ac hqe hrde);have HDN:=Ad (Ac hDl hD0);clear hMu hSh hqe hrde hNe hDe hNu hD hlw hdn1 hDl hD0 hden hnd;go_wp2_with fail;refine(HM.out.1 _).mono ?_;rintro e9 w9 ⟨rfl,rfl⟩;go_wp2_with fail;refine(HM.out.2 _).mono ?_;rintro e9 w9 ⟨rfl,m,rfl⟩;unfold kL;by_cases hbig:D≤Nu/18446744073709551616
    ·rw[if_pos hbig];have hq:65535<gD a p e:=by rw[HQ.out.1];(have h1:D*18446744073709551616≤Nu:=by rw[←Nat.le_div_iff_mul_le (by decide)];exact hbig);(have h2:18446744073709551616≤Nu/D:=by rw[Nat.le_div_iff_mul_le HDN.out.2,Nat.mul_comm];exact h1);exact Nat.lt_of_lt_of_le (by decide) h2
     have hes2: ∀e',-16≤e'→e'<e+1→65535<gD a p e':=fun e' h1 h2=>by rcases Int.lt_or_eq_of_le (Int.le_of_lt_add_one h2) with h3|h3;(·exact hes.out e' h1 h3);·rw[h3];exact hq
     have HN:=Ad (Ac hes2 (least_le hp0 ha1 hes2));clear hq hes2 hbig;go_wp2_with fail;go_roundg(50-(e+1)).toNat;case measure=>omega
     case rel=>exact⟨e+1,by go_num,by omega,HN.out.2,rfl,HN.out.1,HX.out.1.drewN m,HX.out.2.1.drewN m,below_drewN HX.out.2.2 m⟩
    ·rw[if_neg hbig];obtain⟨q,hq⟩: ∃q,q=Nu/D:=⟨_,rfl⟩;obtain⟨rr,hrr⟩: ∃r,r=Nu%D:=⟨_,rfl⟩;rw[←hq,←hrr];have HQ2:=Ad (Ac hq hrr);by_cases h65:65535<q
     ·have h65':(65535:Int)<q:=by omega
      have hes2: ∀e',-16≤e'→e'<e+1→65535<gD a p e':=fun e' h1 h2=>by rcases Int.lt_or_eq_of_le (Int.le_of_lt_add_one h2) with h3|h3;(·exact hes.out e' h1 h3);·rw[h3,HQ.out.1,←hq];exact h65
      have HN:=Ad (Ac hes2 (least_le hp0 ha1 hes2));clear hes2 hbig h65 hq hrr;generalize(if D<2*rr then(1:Int) else if 2*rr=D then 0 else-1)=hv;go_wp2_with fail;go_roundg(50-(e+1)).toNat;case measure=>omega
      case rel=>exact⟨e+1,by go_num,by omega,HN.out.2,rfl,HN.out.1,HX.out.1.drewN m,HX.out.2.1.drewN m,below_drewN HX.out.2.2 m⟩
     ·have h65': ¬((65535:Int)<q):=by omega
      have hle:gh a p e:=⟨by rw[HQ.out.1,←hq];omega,hes.out⟩;obtain⟨rm,hrm⟩: ∃rm,rm=dQ a p e:=⟨_,rfl⟩;have hrmq:rm=if D<2*rr∨(2*rr=D∧q%2=1) then q+1 else q:=by rw[hrm];unfold dQ;rw[HQ.out.2.2,HQ.out.2.1,HQ.out.1,←hq,←hrr]
      have hrl:rm≤65536:=by rw[hrm];exact pW hle.1
      have hrf:=HI.out.2.2.2.1 e hle he0 (by omega);rw[←hrm] at hrf;have HR:=Ad (Ac hrf (Ac hrl hrmq));have hq65:q≤65535:=by omega
      clear hrf hrmq hrm hle hbig h65 hq hrr;obtain⟨hv,hhv⟩: ∃hv:Int,hv=(if D<2*rr then 1 else if 2*rr=D then 0 else-1):=⟨_,rfl⟩;rw[←hhv];have HH:=Ad hhv;clear hhv;go_upto_region 15 with fail;go_cut[71] (fun s71 wx=> ∃b:Bool,s71=.bool b∧Hid (rm=if b then q+1 else q)∧aj wx w.heap.size 108 #[.int .i64 n,.int .i64 x]∧aj wx (w.heap.size+1) 104 #[.int .i64 0,.int .i64 0]∧Below w.heap.size w wx)
      case first=>
       rcases Nat.lt_trichotomy D (2*rr) with c|c|c
       ·have hv1:hv=1:=by rw[HH.out,if_pos c]
        subst hv1;have HB:=Ad (show rm=q+1 by rw[HR.out.2.2,if_pos (.inl c)]);clear c;go_wp2_with fail;go_meet;exact⟨true,rfl,HB.out,HX.out.1.drewN m,HX.out.2.1.drewN m,below_drewN HX.out.2.2 m⟩
       ·have hv1:hv=0:=by rw[HH.out,if_neg (by omega),if_pos c.symm]
        subst hv1;by_cases hpar:q%2=1
        ·have hp2:(((q:Int)%2)==1)=true:=by simp;omega
         have HB:=Ad (show rm=q+1 by rw[HR.out.2.2,if_pos (.inr ⟨c.symm,hpar⟩)]);clear c hpar;go_wp2_with fail;go_meet;exact⟨true,by first|rfl|simpa using hp2,HB.out,HX.out.1.drewN m,HX.out.2.1.drewN m,below_drewN HX.out.2.2 m⟩
        ·have hp2:(((q:Int)%2)==1)=false:=by simp;omega
         have HB:=Ad (show rm=q by rw[HR.out.2.2,if_neg (by omega)]);clear c hpar;go_wp2_with fail;go_meet;exact⟨false,by first|rfl|simpa using hp2,HB.out,HX.out.1.drewN m,HX.out.2.1.drewN m,below_drewN HX.out.2.2 m⟩
       ·have hv1:hv= -1:=by rw[HH.out,if_neg (by omega),if_neg (by omega)]
        subst hv1;have HB:=Ad (show rm=q by rw[HR.out.2.2,if_neg (by omega)]);clear c;go_wp2_with fail;go_meet;exact⟨false,rfl,HB.out,HX.out.1.drewN m,HX.out.2.1.drewN m,below_drewN HX.out.2.2 m⟩
      case rest=>
       obtain⟨b,rfl,hb,hw1,hw2,hw3⟩:=hcut;have HB:=Ad hb.out;have HW:=Ad (Ac hw1 (Ac hw2 hw3));clear hb hw1 hw2 hw3;have hrl:=HR.out.2.1;go_upto_if 71 with fail;go_cut[11] (fun s11 wx=>s11=.int .u64 (rm:Int)∧aj wx w.heap.size 108 #[.int .i64 n,.int .i64 x]∧aj wx (w.heap.size+1) 104 #[.int .i64 0,.int .i64 0]∧Below w.heap.size w wx)
       case first=>
        cases b
        ·have hrq:rm=q:=by have:=HB.out;simpa using this
         subst hrq;go_wp2_with fail;go_meet;exact⟨rfl,HW.out.1,HW.out.2.1,HW.out.2.2⟩
        ·have hrq:rm=q+1:=by have:=HB.out;simpa using this
         subst hrq;have hqw:IntKind.u64.wrap ((q:Int)+1)=(q:Int)+1:=by rw[IntKind.wrap_u64];omega
         go_wp2_with fail;go_meet;exact⟨by first|rfl|go_num,HW.out.1,HW.out.2.1,HW.out.2.2⟩
       case rest=>
        obtain⟨rfl,hw1,hw2,hw3⟩:=hcut;obtain⟨p0,p1⟩:=hw1.c2;have HW:=Ad (Ac hw1 (Ac hw2 hw3));clear hw1 hw2 hw3;have hri:IntKind.i64.wrap (rm:Int)=(rm:Int):=by rw[IntKind.wrap_i64];omega
        by_cases hneg:n<0
        ·have hX:bB (-(rm:Int)) e=r:=by rw[HR.out.1];congr 1;unfold mh;rw[if_pos hneg]
         have HX9:=Ad hX;clear hX;go_wp2_with fail;refine(i7 (-(rm:Int)) e _ (by omega) (by omega) (by omega)).mono ?_;rintro e9 w9 ⟨rfl,hb9⟩;rw[HX9.out];have HZ9:=Ad (Ac (HW.out.2.1.below hb9) (ai HW.out.2.2 hb9));clear hb9;have hz9:=HZ9.out.1.lt;have f0:=HZ9.out.1.frozen 0;have f1:=HZ9.out.1.frozen 1;obtain⟨y0,y1⟩:=HZ9.out.1.c2;rcases r with _|⟨m',e'⟩;·unfold br;go_wp2_with fail;refine bodyPost_ret (v:=br none) (by simp[results,br,Tryz.results249,go_sem, *]<;>rfl) rfl ?_;exact⟨rfl,dh HZ9.out.2 (by omega) _ _⟩
         ·unfold br;go_wp2_with fail;refine bodyPost_ret (v:=br (some (m',e'))) (by simp[results,br,Tryz.results249,go_sem, *]<;>rfl) rfl ?_;exact⟨rfl,dh HZ9.out.2 (by omega) _ _⟩
        ·have hX:bB (rm:Int) e=r:=by rw[HR.out.1];congr 1;unfold mh;rw[if_neg hneg]
         have HX9:=Ad hX;clear hX;go_wp2_with fail;refine(i7 (rm:Int) e _ (by omega) (by omega) (by omega)).mono ?_;rintro e9 w9 ⟨rfl,hb9⟩;rw[HX9.out];have HZ9:=Ad (Ac (HW.out.2.1.below hb9) (ai HW.out.2.2 hb9));clear hb9;have hz9:=HZ9.out.1.lt;have f0:=HZ9.out.1.frozen 0;have f1:=HZ9.out.1.frozen 1;obtain⟨y0,y1⟩:=HZ9.out.1.c2;rcases r with _|⟨m',e'⟩;·unfold br;go_wp2_with fail;refine bodyPost_ret (v:=br none) (by simp[results,br,Tryz.results249,go_sem, *]<;>rfl) rfl ?_;exact⟨rfl,dh HZ9.out.2 (by omega) _ _⟩
         ·unfold br;go_wp2_with fail;refine bodyPost_ret (v:=br (some (m',e'))) (by simp[results,br,Tryz.results249,go_sem, *]<;>rfl) rfl ?_;exact⟨rfl,dh HZ9.out.2 (by omega) _ _⟩
def yB(v:aa):Prop:= ∀(A:Option Addr)(c:Nat)(w:World),bulkVal v≤1048576→bC v→SA w v.l A c→Calls Tryz.prog 68 #[.agg #[.int .i64 v.kind,.int .i64 v.n,.int .i64 v.x,.string v.s,.slice A v.l.length c]] w fun e w'=> ∃A' c',e=.returned (.agg #[.int .i64 v.kind,.int .i64 v.n,.int .i64 v.x,.string v.s,.slice A' v.l.length c'])∧SF w.heap.size w' v.l A' c'∧Below w.heap.size w w'
theorem lY(v:aa):yB v:=by
 refine aa.ind (p:=yB) (fun v IH=> ?_) v;intro A c w hn hI hx;have hn1:v.l.length≤1048576:=by rw[au,aB] at hn;omega
 have hp:Hid (∀k(h:k<v.l.length),bulkVal v.l[k]≤1048576):=fun k h=>by have:=dJ bulkVal v.l h;rw[au,aB] at hn;omega
 have IH':=Ad IH;clear IH hn;have E:=Ad hx;clear hx;have HI:=Ad hI;clear hI;go_enter Tryz.func68,Tryz.ntmps68;go_wp2_with fail;go_loopg[3,9] v.l.length (fun gk rv i wr=> ∃(k:Nat),k≤v.l.length∧i=.int .i64 k∧gk=v.l.length-k∧aj wr w.heap.size 27 #[.int .i64 v.kind,.int .i64 v.n,.int .i64 v.x,.string v.s,.slice A v.l.length c]∧aj wr (w.heap.size+1) 27 #[.int .i64 0,.int .i64 0,.int .i64 0,.string .empty,.slice none 0 0]∧ay wr (w.heap.size+1+1) 27 rv (v.l.take k)∧Below w.heap.size w wr);case atStart=>exact⟨0,by omega,rfl,by omega,(aj.at rfl).alloc _,aj.at (by simp),ay.nX _ _ _,ab (ab (ae w) _) _⟩
 case round=>
  obtain⟨k,hk,rfl,rfl,hP0,hP1,hown,hbel⟩:=hrel;by_cases hlt:k<v.l.length
  ·obtain⟨b,off,A',c',rfl,hb,hI,hs,k0,k1,k2,k3,k4⟩:=(E.out.below hbel).bV hlt;obtain⟨p0,p1,p2,p3,p4⟩:=hP0.c5;have HS:=Ad (Ac hI hs);clear hI hs;go_wp2_with fail;refine(IH'.out k hlt A' c' _ (hp.out k hlt) HS.out.1 (HS.out.2.below (ab (ae wr) _))).mono ?_;rintro e w1 ⟨A1,c1,rfl,hsf,hb1⟩;have HB:=Ad (Ac hown (Ac (hsf.mono (ab (ae wr) _).size) (ai (ab (ae wr) _) hb1)));have Q0:=Ad ((hP0.alloc _).below hb1);have Q1:=Ad ((hP1.alloc _).below hb1);have hz0:w.heap.size<w1.heap.size:=Q0.out.lt;have hz1:w.heap.size+1<w1.heap.size:=Q1.out.lt;have hwr:w.heap.size+1<wr.heap.size:=hP1.lt;have hbel1:=Ad (ai hbel (ai (ab (ae wr) _) hb1));clear hb1 hsf hown hP0 hP1 p0 p1 p2 p3 p4 k0 k1 k2 k3 k4 hbel;obtain⟨p0,p1,p2,p3,p4⟩:=Q0.out.c5;have htk:(v.l.take k).length=k:=by rw[List.length_take];omega
   have htk1:(v.l.take (k+1)).length=k+1:=by rw[List.length_take];omega
   go_wp2_with(at_builtin;(refine av rfl _ _ 25 rfl rfl rfl (cN 25 _ (w.heap.size+1+1) 27 (.agg #[.int .i64 0,.int .i64 0,.int .i64 0,.string .empty,.slice none 0 0]) 64 Tryz.underlying25 bX rfl (by decide) _ (v.l.take k) v.l[k] _ wr _ _ HB.out.1 (ai HB.out.2.2 (ab (ae w1) _)) (RF.below (RF.val HS.out.1 HB.out.2.1) (ab (ae w1) _)) (aF [_,_,_,_,_] (by simp)) (by rw[htk];omega) (by rw[htk];unfold maxLen;omega) (by omega)) ?_;rintro rv' w2 ⟨ho,hbl,_⟩;rw[←List.take_succ_eq_append_getElem hlt] at ho;obtain⟨Av,cv,rfl⟩:=ho.form;rw[htk1] at ho ⊢;have HO:=Ad (Ac ho hbl);clear ho hbl));go_roundg(v.l.length-(k+1));case measure=>omega
   case rel=>
    refine⟨k+1,by omega,by go_num,rfl,?_,?_,HO.out.1,?_⟩;·exact((Q0.out.alloc _).aG HO.out.2 (by omega))
    ·exact((Q1.out.alloc _).aG HO.out.2 (by omega))
    ·exact(ai hbel1.out (ab (ae w1) _)).trans (HO.out.2.mono (by omega))
  ·have e:k=v.l.length:=by omega
   subst e;rw[List.take_length] at hown;obtain⟨Av,cv,rfl⟩:=hown.form;have HO:=Ad (Ac hown hbel);clear hown hbel;obtain⟨p0,p1,p2,p3,p4⟩:=hP0.c5;obtain⟨r0,r1,r2,r3,r4⟩:=hP1.c5;have hz0:=hP0.lt;have hz1:=hP1.lt;have g4:=hP0.frozen 4;obtain⟨f0,f1,f2,f3,f4⟩:=hP1.f5;clear hP0 hP1;go_wp2_with fail;refine bodyPost_ret (v:=.agg #[.int .i64 v.kind,.int .i64 v.n,.int .i64 v.x,.string v.s,.slice Av v.l.length cv]) (by simp[results,Tryz.results68,go_sem, *]) rfl ?_;refine⟨Av,cv,rfl,?_,?_⟩;·refine SF.mono (base:=w.heap.size+1+1) ?_ (by omega);refine SF.set (SF.set (SF.set (SF.set (SF.set (SF.set HO.out.1.sf.2 ?_ _) ?_ _) ?_ _) ?_ _) ?_ _) ?_ _;all_goals(simp;try omega)
   ·refine Below.setCell (Below.setCell (Below.setCell (Below.setCell (Below.setCell (Below.setCell HO.out.2 ?_ _) ?_ _) ?_ _) ?_ _) ?_ _) ?_ _;all_goals(simp;try omega)
theorem pq(n x:Int)(w:World)(ht:qC w)(hok:aZ n x=true):Calls Tryz.prog 209 #[.agg #[.int .i64 n,.int .i64 x]] w (bN w (.bool (fe n x))):=by
 obtain⟨hb0,hb1,hb2,hb3⟩:=qt hok;have HT:=Ad ht;clear ht;have B0:=Ad (ab (ae w) (.cells #[.int .i64 n,.int .i64 x] 108));have P0:=Ad (aj.new w 108 #[.int .i64 n,.int .i64 x]);have HK:=Ad hok;clear hok;obtain⟨q,hq⟩: ∃q,q=fe n x:=⟨_,rfl⟩;rw[←hq];rcases hr:eM n x with _|⟨m,e⟩;·rw[mr hr] at hq;subst hq;have HR:=Ad hr;clear hr;go_enter Tryz.func209,Tryz.ntmps209;go_wp2_with fail;refine(dW n x _ (HT.out.below B0.out) HK.out hb0 hb1 hb2 hb3).mono ?_;rintro e w1 ⟨rfl,hb⟩;rw[HR.out];unfold br;have HB:=Ad (ai B0.out hb);clear hb;have hle:=HB.out.size;go_wp2_with fail;go_quiet(fail);go_wp2_with fail;go_ret;exact⟨rfl,by first|exact below_drewN (ab HB.out _) _|exact ab HB.out _⟩
 ·have hf:=nL hr;rw[gu hr] at hq;have HQ:=Ad (show Hid (q=decide (((aI m e).1,(aI m e).2)=(n,x))) from hq);clear hq;have HR:=Ad hr;clear hr;have HF:=Ad hf;clear hf;obtain⟨a,ha⟩: ∃a,a=(aI m e).1:=⟨_,rfl⟩;obtain⟨b,hb⟩: ∃b,b=(aI m e).2:=⟨_,rfl⟩;have hfd:nN m e=.agg #[.int .i64 a,.int .i64 b]:=by unfold nN;rw[ha,hb]
  have heq:=uW a b n x;have HQ2:Hid (decide ((a,b)=(n,x))=q):=by show _=_;rw[HQ.out.out,ha,hb]
  rw[HQ2.out] at heq;have HD:=Ad hfd;clear hfd ha hb HQ;cases q
  all_goals
   go_enter Tryz.func209,Tryz.ntmps209;go_wp2_with fail;refine(dW n x _ (HT.out.below B0.out) HK.out hb0 hb1 hb2 hb3).mono ?_;rintro e1 w1 ⟨rfl,hb⟩;rw[HR.out];unfold br;have P1:=Ad (P0.out.below hb);have HB:=Ad (ai B0.out hb);clear hb;have hle:=HB.out.size;have hz1:=P1.out.lt;obtain⟨p0,p1⟩:=P1.out.c2;have n1:w.heap.size≠w1.heap.size:=by omega
   have n1':w1.heap.size≠w.heap.size:=by omega
   go_wp2_with fail;go_region_held3(fun u=>u.cell? ⟨w.heap.size,0,none⟩=some (.int .i64 n)∧u.cell? ⟨w.heap.size,1,none⟩=some (.int .i64 x)∧u.cell? ⟨w1.heap.size,0,none⟩=some (.int .i64 m)∧u.cell? ⟨w1.heap.size,1,none⟩=some (.int .i64 e)) (go_keep) (first|(go_at_call 211;(refine(ja m e _ (by first|exact HT.out.below (ab HB.out _)|exact HT.out.below (below_drewN (ab HB.out _) _)|exact HT.out.below ((ab HB.out _).drew)) HF.out).mono ?_;rintro e2 w2 ⟨rfl,hb⟩;rw[HD.out];have P2:=Ad (show aj w2 w.heap.size 108 #[.int .i64 n,.int .i64 x] from(by first|exact(P1.out.alloc _).below hb|exact(P1.out.alloc _).drew.below hb));obtain⟨r0,r1⟩:=P2.out.c2;have hz2:=P2.out.lt;have Q2:=Ad (show aj w2 w1.heap.size 104 #[.int .i64 m,.int .i64 e] from(by first|exact(aj.new w1 _ _).below hb|exact(aj.new w1 _ _).drew.below hb));obtain⟨t0,t1⟩:=Q2.out.c2;have hz3:=Q2.out.lt;have HB2:=Ad (show Below w.heap.size w w2 from(by first|exact ai (ab HB.out _) hb|exact ai ((ab HB.out _).drew) hb));clear hb)));·go_wp2_with fail;go_ret;exact⟨rfl,HB2.out⟩
theorem oC(n:Int)(w:World):Calls Tryz.prog 250 #[.int .i64 n] w (bN w (aX 3 n 0 {data:=#[]})):=by
 have B0:=Ad (ae w);go_enter Tryz.func250,Tryz.ntmps250;go_wp2_with fail;refine bodyPost_ret (v:=aX 3 n 0 {data:=#[]}) (by simp[results,aX,Tryz.results250,go_sem, *]) rfl ?_;exact⟨rfl,ab B0.out _⟩
theorem iD(s:ByteArray)(w:World):Calls Tryz.prog 212 #[.string s] w (bN w (aX 7 0 0 s)):=by
 have B0:=Ad (ae w);go_enter Tryz.func212,Tryz.ntmps212;go_wp2_with fail;refine bodyPost_ret (v:=aX 7 0 0 s) (by simp[results,aX,Tryz.results212,go_sem, *]) rfl ?_;exact⟨rfl,ab B0.out _⟩
theorem kQ(n x:Int)(w:World):Calls Tryz.prog 210 #[.agg #[.int .i64 n,.int .i64 x]] w (bN w (aX (bZ n x).kind (bZ n x).n (bZ n x).x {data:=#[]})):=by
 have BD:=Ad (ab (ae w) (.cells #[.int .i64 n,.int .i64 x] 108));have B0:=Ad (ab (ab (ae w) (.cells #[.int .i64 n,.int .i64 x] 108)) (.cells #[.int .i64 0,.int .i64 0,.int .i64 0,.string .empty,.slice none 0 0] 27));unfold bZ;by_cases hx:x=0;·subst hx;simp only[if_true];go_enter Tryz.func210,Tryz.ntmps210;go_wp2_with fail;refine(oC n _).mono ?_;rintro e1 w1 ⟨rfl,hb⟩;have P1:=Ad ((aj.at (w:=w.alloc (.cells #[.int .i64 n,.int .i64 0] 108)) (g:=w.heap.size+1) (t:=27) (cs:=#[.int .i64 0,.int .i64 0,.int .i64 0,.string .empty,.slice none 0 0]) (by simp)).below hb);have HB:=Ad (ai B0.out hb);clear hb;have hz:=P1.out.lt;obtain⟨f0,f1,f2,f3,f4⟩:=P1.out.f5;obtain⟨p0,p1,p2,p3,p4⟩:=P1.out.c5;unfold aX;go_wp2_with fail;refine bodyPost_ret (v:=aX 3 n 0 {data:=#[]}) (by simp[results,aX,Tryz.results210,go_sem, *]) rfl ?_;exact⟨rfl,cz HB.out (by simp;try omega) _ _ _ _ _⟩
 ·simp only[if_neg hx];go_enter Tryz.func210,Tryz.ntmps210;go_wp2_with fail;refine bodyPost_ret (v:=aX 6 n x {data:=#[]}) (by simp[results,aX,Tryz.results210,go_sem, *]) rfl ?_;exact⟨rfl,ab BD.out _⟩
theorem xP{P:Program}{t e:TypeId}{z:Value}{size bytes:Nat}(ht:P.underlying t=some (.slice e))(hinfo:(P.info? e).map (fun i=>(i.zero,i.size,i.bytes))=some (some z,size,bytes))(n:Nat)(hbytes:bytes*n≤281474976710656)(h63:n≤9223372036854775807)(w:World):(Instr.makeSlice t (.int .i64 0) (.int .i64 (n:Int))).run P w=.ok (.slice (some ⟨w.heap.size,0,none⟩) 0 n) (w.alloc (.cells (madeCells z.cells (n*size)) e)):=by
 obtain⟨i,hi,hz,hsz,hby⟩:=info_parts hinfo;subst hsz hby;have hb:(i.bytes:Int)*(n:Int)≤281474976710656:=by(have h:((i.bytes*n:Nat):Int)≤281474976710656:=by omega);rwa[Int.natCast_mul] at h
 have hr:=run_make (P:=P) w t e i z ht hi hz .i64 .i64 0 n (by omega) (by omega) hb (by omega);simp only[Int.toNat_natCast,Int.toNat_zero] at hr;exact hr
theorem ay.zG{α:Type}[aE α](w:World)(t:TypeId)(cur:Array Value){n:Nat}(hm:n≤maxLen)(hs:cur.size=n*aE.wd α):ay (α:=α) (w.alloc (.cells cur t)) w.heap.size t (.slice (some ⟨w.heap.size,0,none⟩) 0 n) []:=⟨[],⟨[],World.ownsRow_made w cur n (Nat.le_refl _) hm hs,⟨rfl,rfl⟩,by simp⟩,cj.nil _ _⟩
theorem np(s:ByteArray)(w:World)(hs:s.size≤1048576):Calls Tryz.prog 213 #[.string s] w (bN w (.string (ng s))):=by
 have hl:s.data.toList.length=s.size:=by rw[Array.length_toList];rfl
 have hmk:=xP (P:=Tryz.prog) (t:=22) (e:=5) (z:=.int .u8 0) (size:=1) (bytes:=1) Tryz.underlying22 dG (2*s.size) (by omega) (by omega) w;have hmk1:IntKind.i64.wrap (2*(s.size:Int))=((2*s.size:Nat):Int):=by rw[IntKind.wrap_i64];omega
 have hmk2:(2*(s.size:Int))=((2*s.size:Nat):Int):=by omega
 obtain⟨N2,hN2⟩: ∃N2,N2=2*s.size:=⟨_,rfl⟩;rw[←hN2] at hmk hmk1 hmk2;have HN2:=Ad hN2;clear hN2;go_enter Tryz.func213,Tryz.ntmps213;go_wp2_with fail;go_loopg[3,4,11] s.size (fun gk rv _ i wr=> ∃(k:Nat),k≤s.size∧i=.int .i64 k∧gk=s.size-k∧ay wr w.heap.size 5 rv (oh (s.data.toList.take k))∧Below w.heap.size w wr);case atStart=>exact⟨0,by omega,rfl,by omega,ay.zG w _ _ (by have:=HN2.out;unfold maxLen;omega) (by simp[madeCells,aE.wd]),ab (ae w) _⟩
 case round=>
  obtain⟨k,hk,rfl,rfl,hown,hbel⟩:=hrel;by_cases hlt:k<s.size
  ·have hi1:(k:Int)<s.size:=by omega
   have hi3:(0:Int)≤k:=by omega
   have HO:=Ad (Ac hown hbel);clear hown hbel;have hb:=(s[k]).toNat_lt;have hd1:(0≤((s[k]).toNat:Int)/16)∧((s[k]).toNat:Int)/16<16:=by omega
   have hd2:(0≤((s[k]).toNat:Int)%16)∧((s[k]).toNat:Int)%16<16:=by omega
   have hbt:=wM s[k];have hx1: ∀h:((((s[k]'hlt).toNat:Int)/16).toNat<ByteArray.size ({data:=#[48,49,50,51,52,53,54,55,56,57,97,98,99,100,101,102]}:ByteArray)),({data:=#[48,49,50,51,52,53,54,55,56,57,97,98,99,100,101,102]}:ByteArray)[(((s[k]'hlt).toNat:Int)/16).toNat]'h=nh ((s[k]'hlt).toNat/16):=fun h=>jF _ h _ (by omega);have hx2: ∀h:((((s[k]'hlt).toNat:Int)%16).toNat<ByteArray.size ({data:=#[48,49,50,51,52,53,54,55,56,57,97,98,99,100,101,102]}:ByteArray)),({data:=#[48,49,50,51,52,53,54,55,56,57,97,98,99,100,101,102]}:ByteArray)[(((s[k]'hlt).toNat:Int)%16).toNat]'h=nh ((s[k]'hlt).toNat%16):=fun h=>jF _ h _ (by omega);go_wp2_with fail;go_region_held3(fun u=>True) (trivial) (first|((apply aM (s:=.tmp 14) (x:=.tmp 25) (t:=22) (v:=u3) (u:=.slice (some ⟨wr.heap.size,0,none⟩) 2 2);(try case hgd=>exact rfl);(try case ho=>exact rfl);(try case hs=>exact rfl);(try case hx=>exact rfl);(case hrun=>exact a7 (P:=Tryz.prog) fL 22 22 w.heap.size 5 (.int .u8 0) 1 Tryz.underlying22 dG rfl (by decide) u3 (oh (s.data.toList.take k)) [_,_] _ _ (HO.out.1.below (ab (ae wr).drew _)) (SA.zv wr.drew _ _ _) (by rw[gS,List.length_take];simp;omega) (by rw[gS,List.length_take];unfold maxLen;simp;omega) (by have:=HO.out.2.size;simp;omega));rintro v1 w1 ⟨ho,hbl,_,hg⟩;have HO1:=Ad (Ac ho (show Below w.heap.size w w1 from(HO.out.2.trans ((ab (ae wr).drew _).mono HO.out.2.size)).trans hbl));clear ho hbl hg)))
   all_goals
    go_wp2_with fail;go_roundg(s.size-(k+1));case measure=>omega
    case rel=>
     refine⟨k+1,by omega,by go_num,rfl,?_,HO1.out.2⟩;have hlt':k<s.data.toList.length:=by omega
     rw[List.take_succ_eq_append_getElem hlt',pK];exact HO1.out.1
  ·have e:k=s.size:=by omega
   rw[e,←hl,List.take_length] at hown;obtain⟨Av,cv,rfl⟩:=hown.form;have hcv:=bd (P:=Tryz.prog) (src:=22) (dst:=9) Tryz.underlying22 Tryz.underlying5 Tryz.underlying9 hown.sf.2.sa;have HB:=Ad hbel;clear hbel hown;go_wp2_with fail;go_ret;exact⟨rfl,HB.out⟩
def n9:Option (Int×Int)→Value|some (m,e)=>.tuple #[aX 4 m e {data:=#[]},.bool true]|none=>.tuple #[aX 4 0 0 {data:=#[]},.bool false]
theorem iy(k n x:Int)(s:ByteArray)(A:Option Addr)(m c:Nat)(w:World)(ht:qC w)(hok:aZ n x=true):Calls Tryz.prog 208 #[.agg #[.int .i64 k,.int .i64 n,.int .i64 x,.string s,.slice A m c]] w (bN w (n9 (eM n x))):=by
 obtain⟨hb0,hb1,hb2,hb3⟩:=qt hok;have HK:=Ad hok;clear hok;have HT:=Ad ht;clear ht;have B0:=Ad (ab (ab (ae w) (.cells #[.int .i64 k,.int .i64 n,.int .i64 x,.string s,.slice A m c] 27)) (.cells #[.int .i64 0,.int .i64 0,.int .i64 0,.string .empty,.slice none 0 0] 27));have Z0:=Ad (aj.at (w:=w.alloc (.cells #[.int .i64 k,.int .i64 n,.int .i64 x,.string s,.slice A m c] 27)) (g:=w.heap.size+1) (t:=27) (cs:=#[.int .i64 0,.int .i64 0,.int .i64 0,.string .empty,.slice none 0 0]) (by simp));rcases hr:eM n x with _|⟨m1,e1⟩;·have HR:=Ad hr;clear hr;unfold n9;go_enter Tryz.func208,Tryz.ntmps208;go_wp2_with fail;refine(dW n x _ (HT.out.below B0.out) HK.out hb0 hb1 hb2 hb3).mono ?_;rintro e w1 ⟨rfl,hb⟩;rw[HR.out];unfold br;have Z1:=Ad (Z0.out.below hb);have HB:=Ad (ai B0.out hb);clear hb;obtain⟨f0,f1,f2,f3,f4⟩:=Z1.out.f5;obtain⟨p0,p1,p2,p3,p4⟩:=Z1.out.c5;have hzz:=Z1.out.lt;go_wp2_with fail;refine bodyPost_ret (v:=.tuple #[aX 4 0 0 {data:=#[]},.bool false]) (by simp[results,aX,Tryz.results208,go_sem, *]) rfl ?_;exact⟨rfl,by first|exact ab (cz HB.out (by omega) _ _ _ _ _) _|exact cz (ab HB.out _) (by simp;try omega) _ _ _ _ _⟩
 ·have HR:=Ad hr;clear hr;unfold n9;go_enter Tryz.func208,Tryz.ntmps208;go_wp2_with fail;refine(dW n x _ (HT.out.below B0.out) HK.out hb0 hb1 hb2 hb3).mono ?_;rintro e w1 ⟨rfl,hb⟩;rw[HR.out];unfold br;have Z1:=Ad (Z0.out.below hb);have HB:=Ad (ai B0.out hb);clear hb;obtain⟨f0,f1,f2,f3,f4⟩:=Z1.out.f5;obtain⟨p0,p1,p2,p3,p4⟩:=Z1.out.c5;have hzz:=Z1.out.lt;go_wp2_with fail;refine bodyPost_ret (v:=.tuple #[aX 4 m1 e1 {data:=#[]},.bool true]) (by simp[results,aX,Tryz.results208,go_sem, *]) rfl ?_;exact⟨rfl,by first|exact ab (cz HB.out (by omega) _ _ _ _ _) _|exact cz (ab HB.out _) (by simp;try omega) _ _ _ _ _⟩
end Go.Proofs.YtodpdjehjllhdaaGreatDoor
