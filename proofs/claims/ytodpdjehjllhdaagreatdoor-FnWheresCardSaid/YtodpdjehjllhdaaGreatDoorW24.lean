/- Part of a proof: contracts and plain laws. -/
import Derived.Test.YtodpdjehjllhdaaGreatDoorW23
import Derived.Laws.MathBits
set_option linter.unusedVariables false
set_option linter.unusedSimpArgs false
set_option maxRecDepth 100000
set_option maxHeartbeats 20000000
namespace Go.Proofs.YtodpdjehjllhdaaGreatDoor
open Go.RowKit
theorem yj{y:Nat}(h0:0<y)(h1:y<18446744073709551616): ∃s:Nat,s≤63∧(64-(Lib.bitLen y:Int))=(s:Int)∧9223372036854775808≤y*2^s∧y*2^s<18446744073709551616:=by
 obtain⟨h2,h3,h4⟩:=Lib.bitLenAux_bounds 64 y h1 (by omega);have hb:Lib.bitLen y=Lib.bitLenAux 64 y:=rfl;have h5:Lib.bitLenAux 64 y≤64:=by apply Nat.le_of_not_lt;intro hc;have:=Nat.pow_le_pow_right (show 0<2 by decide) (show 64≤Lib.bitLenAux 64 y-1 by omega);omega
 refine⟨64-Lib.bitLenAux 64 y,by omega,by rw[hb];omega,?_,?_⟩
 ·have h6:2^(Lib.bitLenAux 64 y-1)*2^(64-Lib.bitLenAux 64 y)=9223372036854775808:=by rw[←Nat.pow_add,show Lib.bitLenAux 64 y-1+(64-Lib.bitLenAux 64 y)=63 by omega]
  rw[←h6];exact Nat.mul_le_mul_right _ h3
 ·have h6:2^(Lib.bitLenAux 64 y)*2^(64-Lib.bitLenAux 64 y)=18446744073709551616:=by rw[←Nat.pow_add,show Lib.bitLenAux 64 y+(64-Lib.bitLenAux 64 y)=64 by omega]
  rw[←h6];exact Nat.mul_lt_mul_of_pos_right h4 (Nat.pow_pos (by decide))
theorem yu{U T q Y V:Nat}(hq:q=(U*4294967296+T)/Y)(hV:V=(U*4294967296+T)%Y)(hY:0<Y)(hY2:Y<18446744073709551616):IntKind.u64.wrap (IntKind.u64.wrap (IntKind.u64.wrap ((U:Int)*4294967296)+(T:Int))-IntKind.u64.wrap ((q:Int)*(Y:Int)))=(V:Int):=by
 have h:=Nat.div_add_mod (U*4294967296+T) Y;have hl:=Nat.mod_lt (U*4294967296+T) hY;rw[←hq,←hV] at h;rw[←hV] at hl;obtain⟨C,hC⟩: ∃C,C=Y*q:=⟨_,rfl⟩;rw[←hC] at h;have hCi:(q:Int)*(Y:Int)=(C:Int):=by rw[hC,Nat.mul_comm];simp
 rw[hCi,IntKind.wrap_u64,IntKind.wrap_u64,IntKind.wrap_u64,IntKind.wrap_u64];clear hCi hC hq hV;omega
theorem vB(hi lo y:Nat)(w:World)(hy:y<18446744073709551616)(hlo:lo<18446744073709551616)(hh:hi<y):Calls Tryz.prog 325 #[.int .u64 hi,.int .u64 lo,.int .u64 y] w (gQ w (.tuple #[.int .u64 (((hi*18446744073709551616+lo)/y:Nat):Int),.int .u64 (((hi*18446744073709551616+lo)%y:Nat):Int)])):=by
 obtain⟨N,hN⟩: ∃N,N=hi*18446744073709551616+lo:=⟨_,rfl⟩;rw[←hN];have hyb:((y:Int)==0)=false:=by simp;omega
 have hle: ¬((y:Int)≤hi):=by omega
 by_cases h0:hi=0
 ·subst h0;have hNl:N=lo:=by omega
  subst hNl;have hd1:(N:Int)/y=((N/y:Nat):Int):=rfl;have hd2:(N:Int)%y=((N%y:Nat):Int):=rfl;have hd3:(N:Int).tdiv y=((N/y:Nat):Int):=by rw[Int.tdiv_eq_ediv_of_nonneg (by omega)];rfl
  have hd4:(N:Int).tmod y=((N%y:Nat):Int):=by rw[Int.tmod_eq_emod_of_nonneg (by omega)];rfl
  have hyp:(0:Int)<y:=by omega
  obtain⟨Q,hQ⟩: ∃Q,Q=N/y:=⟨_,rfl⟩;obtain⟨R,hR⟩: ∃R,R=N%y:=⟨_,rfl⟩;rw[←hQ] at hd1 hd3 ⊢;rw[←hR] at hd2 hd4 ⊢;have hwQ:=bk (show Q<18446744073709551616 by rw[hQ];exact Nat.lt_of_le_of_lt (Nat.div_le_self _ _) hlo);have hwR:=bk (show R<18446744073709551616 by rw[hR];exact Nat.lt_of_le_of_lt (Nat.mod_le _ _) hlo);clear hQ hR hN;go_enter Tryz.func325,Tryz.ntmps325;go_wp2_with fail;go_quiet(fail);go_wp2_with fail;refine bodyPost_ret (v:=.tuple #[.int .u64 (Q:Int),.int .u64 (R:Int)]) (by simp[results,Tryz.results325,go_sem, *]<;>rfl) rfl ?_;exact⟨rfl,_,rfl⟩
 ·have hib:((hi:Int)==0)=false:=by simp[h0]
  obtain⟨s,hs63,hs,hn1,hn2⟩:=yj (show 0<y by omega) hy;have hLZ:=Tryz.bits_LeadingZeros64 (y:Int) w (by omega) (by omega);rw[Int.toNat_natCast,hs] at hLZ;have HL:=AJ hLZ;clear hLZ hs;have HY:=AJ (AH hn1 hn2);clear hn1 hn2;go_enter Tryz.func325,Tryz.ntmps325;go_wp2_with fail;refine HL.out.mono ?_;rintro e w1 ⟨rfl,rfl⟩;obtain⟨Y,hY,hYi⟩: ∃Y:Nat,Y=y*2^s∧(y:Int)*2^s=(Y:Int):=⟨_,rfl,by simp⟩;have hYl:9223372036854775808≤Y∧Y<18446744073709551616:=by rw[hY];exact HY.out
  have hYw:=bk hYl.2;obtain⟨A,hA,hAi⟩: ∃A:Nat,A=Y/4294967296∧(Y:Int)/4294967296=(A:Int):=⟨_,rfl,by simp⟩;have hBi:=yG hYl.2;obtain⟨Bn,hB⟩: ∃B,B=Y%4294967296:=⟨_,rfl⟩;rw[←hB] at hBi;have HF:=AJ (AH hYi (AH hYw (AH hAi hBi)));have HE:=AJ (AH hY (AH hYl (AH hA hB)));have hS0:0<2^s:=Nat.pow_pos (by decide);have hCS:2^(64-s)*2^s=18446744073709551616:=by rw[←Nat.pow_add,show 64-s+s=64 by omega]
  have hin:=zR hCS hS0 (Nat.pow_pos (by decide)) hlo hh;rw[←hN,←hY] at hin;have hiS:hi*2^s<18446744073709551616:=by have h1:hi*2^s≤y*2^s:=Nat.mul_le_mul_right _ (Nat.le_of_lt hh);rw[←hY] at h1;exact Nat.lt_of_le_of_lt h1 hYl.2
  obtain⟨Z,hZ,hZi⟩: ∃Z:Nat,Z=hi*2^s∧(hi:Int)*2^s=(Z:Int):=⟨_,rfl,by simp⟩;obtain⟨X,hX,hXi⟩: ∃X:Nat,X=lo/2^(64-s)∧(lo:Int)/2^(64-s)=(X:Int):=⟨_,rfl,by simp⟩;rw[←hZ] at hiS hin;rw[←hX] at hin;have hZw:=bk hiS;obtain⟨U,hU⟩: ∃U:Nat,U=Z+X:=⟨_,rfl⟩;have hor:bits .or .u64 (Z:Int) (X:Int)=(U:Int):=by rw[hU,hZ];exact Ad (by rw[←hZ];exact hiS) hin.2.2 hs63
  obtain⟨T10,hT10⟩: ∃T:Nat,T=lo*2^s%18446744073709551616:=⟨_,rfl⟩;have hT10i:IntKind.u64.wrap ((lo:Int)*2^s)=(T10:Int):=by rw[IntKind.wrap_u64,hT10];simp
  have hT10l:T10<18446744073709551616:=by rw[hT10];exact Nat.mod_lt _ (by decide)
  obtain⟨T1,hT1,hT1i⟩: ∃T1:Nat,T1=T10/4294967296∧(T10:Int)/4294967296=(T1:Int):=⟨_,rfl,by simp⟩;have hT0i:=yG hT10l;obtain⟨T0,hT0⟩: ∃T,T=T10%4294967296:=⟨_,rfl⟩;rw[←hT0] at hT0i;rw[←hT10,←hU] at hin;have HF2:=AJ (AH hZi (AH hZw (AH hXi (AH hor (AH hT10i (AH hT1i hT0i))))));have HE2:=AJ (AH hin (AH hT1 (AH hT0 (AH hT10l hS0))));clear hYi hYw hAi hBi hY hYl hA hB hN hS0 hCS hin hiS hZ hZi hX hXi hZw hU hor hT10 hT10i hT10l hT1 hT1i hT0 hT0i;go_upto_region 9 with fail;simp only[HF.out.1,HF.out.2.1];go_upto_region 10 with fail;simp only[HF.out.2.2.1];go_upto_region 11 with fail;simp only[HF.out.2.2.2];go_upto_region 12 with fail;simp only[HF2.out.1,HF2.out.2.1,HF2.out.2.2.1,HF2.out.2.2.2.1];go_upto_region 13 with fail;simp only[HF2.out.2.2.2.2.1];go_upto_region 14 with fail;simp only[HF2.out.2.2.2.2.2.1];go_upto_region 15 with fail;simp only[HF2.out.2.2.2.2.2.2];have hA0:(0:Int)<A:=by have h:=HE.out.2.2.1;have h2:=HE.out.2.1.1;omega
  have hq0:=HE.out.2.2.1;obtain⟨q0,hq0',hq0i⟩: ∃q0:Nat,q0=U/A∧(U:Int)/A=(q0:Int):=⟨_,rfl,rfl⟩;have hUl:U<18446744073709551616:=Nat.lt_trans HE2.out.1.2.1 HE.out.2.1.2;have hq0w:=bk (Nat.lt_of_le_of_lt (Nat.div_le_self U A) hUl);rw[←hq0'] at hq0w;have hqA:q0*A≤U:=by rw[hq0'];exact Nat.div_mul_le_self U A
  obtain⟨M0,hM0,hM0i⟩: ∃M:Nat,M=q0*A∧(q0:Int)*A=(M:Int):=⟨_,rfl,by simp⟩;have hM0w:=bk (show M0<18446744073709551616 by rw[hM0];exact Nat.lt_of_le_of_lt hqA hUl);obtain⟨r0,hr0,hr0i⟩: ∃r:Nat,M0+r=U∧(U:Int)-M0=(r:Int):=⟨U-M0,by omega,by omega⟩;have hr0w:=bk (show r0<18446744073709551616 by omega);have HF3:=AJ (AH hq0i (AH hq0w (AH hM0i (AH hM0w (AH hr0i hr0w)))));have HE3:=AJ (AH hq0' (AH hM0 (AH hr0 hUl)));clear hq0 hq0' hq0i hq0w hqA hM0 hM0i hM0w hr0 hr0i hr0w hUl;go_upto_region 16 with fail;simp only[HF3.out.1,HF3.out.2.1];go_upto_block 0 with fail;simp only[HF3.out.2.2.1,HF3.out.2.2.2.1,HF3.out.2.2.2.2.1,HF3.out.2.2.2.2.2];go_cut[15,16] (fun s15 s16 wx=> ∃q r:Nat,s15=.int .u64 q∧s16=.int .u64 r∧q=(U*4294967296+T1)/Y∧wx=w1)
  case first=>
   have hY0:0<Y:=by have:=HE.out.2.1.1;omega
   have hYe:Y=A*4294967296+Bn:=by have h1:=HE.out.2.2.1;have h2:=HE.out.2.2.2;have h3:=Nat.div_add_mod Y 4294967296;rw[←h1,←h2] at h3;omega
   have hAl:A<4294967296:=by have h1:=HE.out.2.1.2;clear hA0;omega
   have hBl:Bn<4294967296:=by rw[HE.out.2.2.2];exact Nat.mod_lt _ (by decide)
   have hTl:T1<4294967296:=by rw[HE2.out.2.1];have h:=HE2.out.2.2.2.1;omega
   have hUY:U<Y:=HE2.out.1.2.1;have hA0':0<A:=by omega
   have hinit:(U*4294967296+T1)/Y≤q0:=by rw[HE3.out.1];exact uO hYe hA0' hTl
   have hr0l:r0<4294967296:=by(have h1:r0=U%A:=by have h2:=Nat.div_add_mod U A;rw[←HE3.out.1] at h2;have h3:=HE3.out.2.2.1;rw[HE3.out.2.1,Nat.mul_comm] at h3;omega);rw[h1];exact Nat.lt_trans (Nat.mod_lt _ hA0') hAl
   have hqr0:q0*A+r0=U:=by rw[←HE3.out.2.1];exact HE3.out.2.2.1
   have hqmax:q0≤8589934591:=by(have h1:2147483648≤A:=by have h2:=HE.out.2.1.1;omega);apply Nat.le_of_not_lt;intro hc;have h2:8589934592*2147483648≤q0*A:=Nat.mul_le_mul hc h1;have h3:=HE.out.2.1.2;omega
   have HL2:=AJ (AH hYe (AH hBl (AH hTl (AH hUY (AH hY0 (AH hinit hqr0))))));clear hYe hTl hUY hY0 hinit hqr0 hA0';go_wp2_with fail;go_loopg[15,16] q0 (fun gk s15 s16 wr=> ∃q r:Nat,s15=.int .u64 q∧s16=.int .u64 r∧gk=q∧q≤8589934591∧r<4294967296∧Hid (q*A+r=U∧(U*4294967296+T1)/Y≤q)∧wr=w1);case atStart=>exact⟨q0,r0,rfl,rfl,rfl,hqmax,hr0l,⟨HL2.out.2.2.2.2.2.2,HL2.out.2.2.2.2.2.1⟩,rfl⟩
   case round=>
    clear hqmax hr0l;obtain⟨q,r,rfl,rfl,hgk,hqm,hrl,hqr,rfl⟩:=hrel;by_cases hge:4294967296≤q
    ·have hge':(4294967296:Int)≤q:=by omega
     have hq17:=uE HL2.out.2.2.2.1 HL2.out.2.2.1 hge;have hq1:1≤q:=Nat.lt_of_le_of_lt (Nat.zero_le _) hq17;obtain⟨q',hq'⟩: ∃q',q=q'+1:=⟨q-1,by omega⟩;have f4:IntKind.u64.wrap ((q:Int)-1)=(q':Int):=by rw[hq',show((q'+1:Nat):Int)-1=(q':Int) by omega];exact bk (by omega)
     have f5:IntKind.u64.wrap ((r:Int)+A)=((r+A:Nat):Int):=bk (by omega);obtain⟨r',hr'⟩: ∃r',r'=r+A:=⟨_,rfl⟩;rw[←hr'] at f5;have hinv:q'*A+r'=U:=by have h:=hqr.out.1;rw[hq',Nat.add_mul,Nat.one_mul] at h;omega
     have hQq:(U*4294967296+T1)/Y≤q':=by omega
     by_cases hbr:4294967296≤r'
     ·have hbr':(4294967296:Int)≤r':=by omega
      have HBR:=AJ (kK HL2.out.1 HL2.out.2.1 HL2.out.2.2.2.1 hinv hQq hbr);clear hinv hQq hbr hr' hq' hq17;go_wp2_with fail;go_meet;exact⟨q',r',rfl,rfl,HBR.out,rfl⟩
     ·have hbr': ¬((4294967296:Int)≤r'):=by omega
      have HIN:=AJ (AH hinv (AH hQq hq'));have hrl':r'<4294967296:=by omega
      clear hinv hQq hbr hr' hq' hq17;go_wp2_with fail;go_roundg q';case measure=>have:=HIN.out.2.2;omega
      case rel=>exact⟨q',r',rfl,rfl,rfl,by have:=HIN.out.2.2;omega,hrl',⟨HIN.out.1,HIN.out.2.1⟩,rfl⟩
    ·have hge':decide ((4294967296:Int)≤q)=false:=decide_eq_false (by omega);obtain⟨M,hM⟩: ∃M,M=q*Bn:=⟨_,rfl⟩;have hMl:M≤4294967295*4294967295:=by rw[hM];exact Nat.mul_le_mul (by omega) (by have:=HL2.out.2.1;omega)
     have f1:IntKind.u64.wrap ((q:Int)*Bn)=(M:Int):=by rw[show(q:Int)*Bn=(M:Int) by rw[hM];simp];exact bk (by omega)
     obtain⟨K,hK⟩: ∃K,K=4294967296*r:=⟨_,rfl⟩;have f2:IntKind.u64.wrap (4294967296*(r:Int))=(K:Int):=by rw[show 4294967296*(r:Int)=(K:Int) by omega];exact bk (by omega)
     obtain⟨S2,hS2⟩: ∃S2,S2=K+T1:=⟨_,rfl⟩;have f3:IntKind.u64.wrap ((K:Int)+T1)=(S2:Int):=by rw[show(K:Int)+T1=(S2:Int) by omega];exact bk (by have:=HL2.out.2.2.1;omega)
     by_cases hgt:S2<M
     ·have hgt':(S2:Int)<M:=by omega
      have hq17:=yB (t:=T1) HL2.out.1 HL2.out.2.2.2.2.1 hqr.out.1 (by rw[←hM,←hK,←hS2];exact hgt);clear hM hK hS2 hMl hgt;have hq1:1≤q:=Nat.lt_of_le_of_lt (Nat.zero_le _) hq17;obtain⟨q',hq'⟩: ∃q',q=q'+1:=⟨q-1,by omega⟩;have f4:IntKind.u64.wrap ((q:Int)-1)=(q':Int):=by rw[hq',show((q'+1:Nat):Int)-1=(q':Int) by omega];exact bk (by omega)
      have f5:IntKind.u64.wrap ((r:Int)+A)=((r+A:Nat):Int):=bk (by omega);obtain⟨r',hr'⟩: ∃r',r'=r+A:=⟨_,rfl⟩;rw[←hr'] at f5;have hinv:q'*A+r'=U:=by have h:=hqr.out.1;rw[hq',Nat.add_mul,Nat.one_mul] at h;omega
      have hQq:(U*4294967296+T1)/Y≤q':=by omega
      by_cases hbr:4294967296≤r'
      ·have hbr':(4294967296:Int)≤r':=by omega
       have HBR:=AJ (kK HL2.out.1 HL2.out.2.1 HL2.out.2.2.2.1 hinv hQq hbr);clear hinv hQq hbr hr' hq' hq17;go_wp2_with fail;go_meet;exact⟨q',r',rfl,rfl,HBR.out,rfl⟩
      ·have hbr': ¬((4294967296:Int)≤r'):=by omega
       have HIN:=AJ (AH hinv (AH hQq hq'));have hrl':r'<4294967296:=by omega
       clear hinv hQq hbr hr' hq' hq17;go_wp2_with fail;go_roundg q';case measure=>have:=HIN.out.2.2;omega
       case rel=>exact⟨q',r',rfl,rfl,rfl,by have:=HIN.out.2.2;omega,hrl',⟨HIN.out.1,HIN.out.2.1⟩,rfl⟩
     ·have hgt': ¬((S2:Int)<M):=by omega
      have HEND:=AJ (tU (t:=T1) HL2.out.1 HL2.out.2.2.2.2.1 hqr.out.1 hqr.out.2 (by rw[←hM,←hK,←hS2];omega));clear hM hK hS2 hMl hgt;go_wp2_with fail;go_meet;exact⟨q,r,rfl,rfl,HEND.out,rfl⟩
  case rest=>
   obtain⟨q,r,rfl,rfl,hq,rfl⟩:=hcut;obtain⟨V1,hV1⟩: ∃V1,V1=(U*4294967296+T1)%Y:=⟨_,rfl⟩;have HQ:=AJ (AH hq hV1);clear hq hV1;have HY0:=AJ (show 0<Y by have:=HE.out.2.1.1;omega);have HVY:=AJ (show V1<Y by rw[HQ.out.2];exact Nat.mod_lt _ HY0.out);have HSB:=AJ (yu HQ.out.1 HQ.out.2 HY0.out HE.out.2.1.2);go_upto_region 22 with fail;simp only[HSB.out];obtain⟨q5,hq5x,hq5i⟩: ∃q5:Nat,q5=V1/A∧(V1:Int)/A=(q5:Int):=⟨_,rfl,rfl⟩;have hVl:V1<18446744073709551616:=Nat.lt_trans HVY.out HE.out.2.1.2;have hq5w:=bk (Nat.lt_of_le_of_lt (Nat.div_le_self V1 A) hVl);rw[←hq5x] at hq5w;have hqA5:q5*A≤V1:=by rw[hq5x];exact Nat.div_mul_le_self V1 A
   obtain⟨M5,hM5,hM5i⟩: ∃M:Nat,M=q5*A∧(q5:Int)*A=(M:Int):=⟨_,rfl,by simp⟩;have hM5w:=bk (show M5<18446744073709551616 by rw[hM5];exact Nat.lt_of_le_of_lt hqA5 hVl);obtain⟨r5,hr5,hr5i⟩: ∃r:Nat,M5+r=V1∧(V1:Int)-M5=(r:Int):=⟨V1-M5,by omega,by omega⟩;have hr5w:=bk (show r5<18446744073709551616 by omega);have HF6:=AJ (AH hq5i (AH hq5w (AH hM5i (AH hM5w (AH hr5i hr5w)))));have HE6:=AJ (AH hq5x (AH hM5 (AH hr5 hVl)));clear hq5x hq5i hq5w hqA5 hM5 hM5i hM5w hr5 hr5i hr5w hVl;go_upto_region 23 with fail;simp only[HF6.out.1,HF6.out.2.1];go_upto_block 2 with fail;simp only[HF6.out.2.2.1,HF6.out.2.2.2.1,HF6.out.2.2.2.2.1,HF6.out.2.2.2.2.2];go_cut[18,16] (fun s15 s16 wx=> ∃q r:Nat,s15=.int .u64 q∧s16=.int .u64 r∧q=(V1*4294967296+T0)/Y∧wx=wc)
   case first=>
    have hY0:0<Y:=by have:=HE.out.2.1.1;omega
    have hYe:Y=A*4294967296+Bn:=by have h1:=HE.out.2.2.1;have h2:=HE.out.2.2.2;have h3:=Nat.div_add_mod Y 4294967296;rw[←h1,←h2] at h3;omega
    have hAl:A<4294967296:=by have h1:=HE.out.2.1.2;clear hA0;omega
    have hBl:Bn<4294967296:=by rw[HE.out.2.2.2];exact Nat.mod_lt _ (by decide)
    have hTl:T0<4294967296:=by rw[HE2.out.2.2.1];exact Nat.mod_lt _ (by decide)
    have hVY:V1<Y:=HVY.out;have hA0':0<A:=by omega
    have hinit:(V1*4294967296+T0)/Y≤q5:=by rw[HE6.out.1];exact uO hYe hA0' hTl
    have hr5l:r5<4294967296:=by(have h1:r5=V1%A:=by have h2:=Nat.div_add_mod V1 A;rw[←HE6.out.1] at h2;have h3:=HE6.out.2.2.1;rw[HE6.out.2.1,Nat.mul_comm] at h3;omega);rw[h1];exact Nat.lt_trans (Nat.mod_lt _ hA0') hAl
    have hqr0:q5*A+r5=V1:=by rw[←HE6.out.2.1];exact HE6.out.2.2.1
    have hqmax:q5≤8589934591:=by(have h1:2147483648≤A:=by have h2:=HE.out.2.1.1;omega);apply Nat.le_of_not_lt;intro hc;have h2:8589934592*2147483648≤q5*A:=Nat.mul_le_mul hc h1;have h3:=HE.out.2.1.2;omega
    have HL6:=AJ (AH hYe (AH hBl (AH hTl (AH hVY (AH hY0 (AH hinit hqr0))))));clear hYe hTl hVY hY0 hinit hqr0 hA0';go_wp2_with fail;go_loopg[18,16] q5 (fun gk s15 s16 wr=> ∃q r:Nat,s15=.int .u64 q∧s16=.int .u64 r∧gk=q∧q≤8589934591∧r<4294967296∧Hid (q*A+r=V1∧(V1*4294967296+T0)/Y≤q)∧wr=wc);case atStart=>exact⟨q5,r5,rfl,rfl,rfl,hqmax,hr5l,⟨HL6.out.2.2.2.2.2.2,HL6.out.2.2.2.2.2.1⟩,rfl⟩
    case round=>
     clear hqmax hr5l;obtain⟨q,r,rfl,rfl,hgk,hqm,hrl,hqr,rfl⟩:=hrel;by_cases hge:4294967296≤q
     ·have hge':(4294967296:Int)≤q:=by omega
      have hq17:=uE HL6.out.2.2.2.1 HL6.out.2.2.1 hge;have hq1:1≤q:=Nat.lt_of_le_of_lt (Nat.zero_le _) hq17;obtain⟨q',hq'⟩: ∃q',q=q'+1:=⟨q-1,by omega⟩;have f4:IntKind.u64.wrap ((q:Int)-1)=(q':Int):=by rw[hq',show((q'+1:Nat):Int)-1=(q':Int) by omega];exact bk (by omega)
      have f5:IntKind.u64.wrap ((r:Int)+A)=((r+A:Nat):Int):=bk (by omega);obtain⟨r',hr'⟩: ∃r',r'=r+A:=⟨_,rfl⟩;rw[←hr'] at f5;have hinv:q'*A+r'=V1:=by have h:=hqr.out.1;rw[hq',Nat.add_mul,Nat.one_mul] at h;omega
      have hQq:(V1*4294967296+T0)/Y≤q':=by omega
      by_cases hbr:4294967296≤r'
      ·have hbr':(4294967296:Int)≤r':=by omega
       have HBR:=AJ (kK HL6.out.1 HL6.out.2.1 HL6.out.2.2.2.1 hinv hQq hbr);clear hinv hQq hbr hr' hq' hq17;go_wp2_with fail;go_meet;exact⟨q',r',rfl,rfl,HBR.out,rfl⟩
      ·have hbr': ¬((4294967296:Int)≤r'):=by omega
       have HIN:=AJ (AH hinv (AH hQq hq'));have hrl':r'<4294967296:=by omega
       clear hinv hQq hbr hr' hq' hq17;go_wp2_with fail;go_roundg q';case measure=>have:=HIN.out.2.2;omega
       case rel=>exact⟨q',r',rfl,rfl,rfl,by have:=HIN.out.2.2;omega,hrl',⟨HIN.out.1,HIN.out.2.1⟩,rfl⟩
     ·have hge':decide ((4294967296:Int)≤q)=false:=decide_eq_false (by omega);obtain⟨M,hM⟩: ∃M,M=q*Bn:=⟨_,rfl⟩;have hMl:M≤4294967295*4294967295:=by rw[hM];exact Nat.mul_le_mul (by omega) (by have:=HL6.out.2.1;omega)
      have f1:IntKind.u64.wrap ((q:Int)*Bn)=(M:Int):=by rw[show(q:Int)*Bn=(M:Int) by rw[hM];simp];exact bk (by omega)
      obtain⟨K,hK⟩: ∃K,K=4294967296*r:=⟨_,rfl⟩;have f2:IntKind.u64.wrap (4294967296*(r:Int))=(K:Int):=by rw[show 4294967296*(r:Int)=(K:Int) by omega];exact bk (by omega)
      obtain⟨S2,hS2⟩: ∃S2,S2=K+T0:=⟨_,rfl⟩;have f3:IntKind.u64.wrap ((K:Int)+T0)=(S2:Int):=by rw[show(K:Int)+T0=(S2:Int) by omega];exact bk (by have:=HL6.out.2.2.1;omega)
      by_cases hgt:S2<M
      ·have hgt':(S2:Int)<M:=by omega
       have hq17:=yB (t:=T0) HL6.out.1 HL6.out.2.2.2.2.1 hqr.out.1 (by rw[←hM,←hK,←hS2];exact hgt);clear hM hK hS2 hMl hgt;have hq1:1≤q:=Nat.lt_of_le_of_lt (Nat.zero_le _) hq17;obtain⟨q',hq'⟩: ∃q',q=q'+1:=⟨q-1,by omega⟩;have f4:IntKind.u64.wrap ((q:Int)-1)=(q':Int):=by rw[hq',show((q'+1:Nat):Int)-1=(q':Int) by omega];exact bk (by omega)
       have f5:IntKind.u64.wrap ((r:Int)+A)=((r+A:Nat):Int):=bk (by omega);obtain⟨r',hr'⟩: ∃r',r'=r+A:=⟨_,rfl⟩;rw[←hr'] at f5;have hinv:q'*A+r'=V1:=by have h:=hqr.out.1;rw[hq',Nat.add_mul,Nat.one_mul] at h;omega
       have hQq:(V1*4294967296+T0)/Y≤q':=by omega
       by_cases hbr:4294967296≤r'
       ·have hbr':(4294967296:Int)≤r':=by omega
        have HBR:=AJ (kK HL6.out.1 HL6.out.2.1 HL6.out.2.2.2.1 hinv hQq hbr);clear hinv hQq hbr hr' hq' hq17;go_wp2_with fail;go_meet;exact⟨q',r',rfl,rfl,HBR.out,rfl⟩
       ·have hbr': ¬((4294967296:Int)≤r'):=by omega
        have HIN:=AJ (AH hinv (AH hQq hq'));have hrl':r'<4294967296:=by omega
        clear hinv hQq hbr hr' hq' hq17;go_wp2_with fail;go_roundg q';case measure=>have:=HIN.out.2.2;omega
        case rel=>exact⟨q',r',rfl,rfl,rfl,by have:=HIN.out.2.2;omega,hrl',⟨HIN.out.1,HIN.out.2.1⟩,rfl⟩
      ·have hgt': ¬((S2:Int)<M):=by omega
       have HEND:=AJ (tU (t:=T0) HL6.out.1 HL6.out.2.2.2.2.1 hqr.out.1 hqr.out.2 (by rw[←hM,←hK,←hS2];omega));clear hM hK hS2 hMl hgt;go_wp2_with fail;go_meet;exact⟨q,r,rfl,rfl,HEND.out,rfl⟩
   case rest=>
    obtain⟨q2,r2,rfl,rfl,hq2,rfl⟩:=hcut;have HQ2:=AJ hq2;clear hq2;obtain⟨W,hW⟩: ∃W,W=(V1*4294967296+T0)%Y:=⟨_,rfl⟩;have HSB2:=AJ (yu HQ2.out hW HY0.out HE.out.2.1.2);have HW:=AJ hW;clear hW;have hfin:q*4294967296+q2=N/y∧W/2^s=N%y:=by obtain⟨d1,d2⟩:=yX 4294967296 Y U T1 T0 HY0.out;rw[←HQ.out.1,←HQ.out.2,←HQ2.out] at d1;rw[←HQ.out.2,←HW.out] at d2;(have hT:(U*4294967296+T1)*4294967296+T0=N*2^s:=by rw[HE2.out.1.1];have h1:=HE2.out.2.1;have h2:=HE2.out.2.2.1;clear d1 d2;omega);rw[hT,HE.out.1] at d1 d2;obtain⟨e1,e2⟩:=yN (N:=N) (y:=y) HE2.out.2.2.2.2;exact⟨by rw[d1,e1],by rw[d2,e2]⟩
    have hqK:q<4294967296:=by rw[HQ.out.1];exact uE HE2.out.1.2.1 (by rw[HE2.out.2.1];have h:=HE2.out.2.2.2.1;omega) (Nat.le_refl _)
    have hq2K:q2<4294967296:=by rw[HQ2.out];exact uE HVY.out (by rw[HE2.out.2.2.1];exact Nat.mod_lt _ (by decide)) (Nat.le_refl _)
    have e1:IntKind.u64.wrap ((q:Int)*4294967296)=((q*4294967296:Nat):Int):=by rw[show(q:Int)*4294967296=((q*4294967296:Nat):Int) by simp];exact bk (by omega)
    have e2:IntKind.u64.wrap (((q*4294967296:Nat):Int)+(q2:Int))=((N/y:Nat):Int):=by rw[show((q*4294967296:Nat):Int)+(q2:Int)=((q*4294967296+q2:Nat):Int) by simp,hfin.1];exact bk (by rw[←hfin.1];omega)
    have e3:(W:Int)/2^s=((N%y:Nat):Int):=by rw[←hfin.2];simp
    have HX:=AJ (AH e1 (AH e2 e3));clear e1 e2 e3 hfin hqK hq2K;go_wp2_with fail;simp only[HSB2.out,HX.out.1,HX.out.2.1,HX.out.2.2];refine bodyPost_ret (v:=.tuple #[.int .u64 ((N/y:Nat):Int),.int .u64 ((N%y:Nat):Int)]) (by simp[results,Tryz.results325,go_sem]<;>rfl) rfl ?_;exact⟨rfl,0,rfl⟩
def kE(P d:Nat):Value:=if d≤P/18446744073709551616 then .tuple #[.int .u64 9223372036854775808,.int .i64 0] else .tuple #[.int .u64 (P/d:Nat),.int .i64 (if d<2*(P%d) then 1 else if 2*(P%d)=d then 0 else-1)]
theorem r9(n k d:Nat)(w:World)(hn:n<18446744073709551616)(hk:k≤63)(hd0:0<d)(hd:d<9223372036854775808):Calls Tryz.prog 286 #[.int .u64 n,.int .u64 k,.int .u64 d] w (gQ w (kE (n*2^k) d)):=by
 obtain⟨E,hE,hEi⟩: ∃E:Nat,E=2^k∧(2:Int)^k=(E:Int):=⟨_,rfl,by simp⟩;have hEl:E<18446744073709551616:=by rw[hE];exact Nat.lt_of_le_of_lt (Nat.pow_le_pow_right (by decide) hk) (by decide)
 have hEw:=bk hEl;rw[←hE];have hM:=Tryz.bits_Mul64 n E hn hEl w;obtain⟨P,hP⟩: ∃P,P=n*E:=⟨_,rfl⟩;rw[←hP] at hM ⊢;obtain⟨hi,hhi⟩: ∃h,h=P/18446744073709551616:=⟨_,rfl⟩;obtain⟨lo,hlo⟩: ∃l,l=P%18446744073709551616:=⟨_,rfl⟩;rw[←hhi,←hlo] at hM;have hPe:hi*18446744073709551616+lo=P:=by rw[hhi,hlo,Nat.mul_comm];exact Nat.div_add_mod _ _
 have hlol:lo<18446744073709551616:=by rw[hlo];exact Nat.mod_lt _ (by decide)
 obtain⟨V,hV⟩: ∃V,V=kE P d:=⟨_,rfl⟩;rw[←hV];unfold kE at hV;rw[←hhi] at hV;have HM:=AJ hM;have HF:=AJ (AH hEi hEw);have HE:=AJ (AH hPe hlol);clear hM hEi hEw hE hEl hP hhi hlo hPe hlol;by_cases hge:d≤hi
 ·rw[if_pos hge] at hV;have hge':(d:Int)≤hi:=by omega
  have HV:=AJ hV;clear hV;go_enter Tryz.func286,Tryz.ntmps286;go_wp2_with fail;simp only[HF.out.1,HF.out.2];refine HM.out.mono ?_;rintro e w1 ⟨rfl,rfl⟩;go_wp2_with fail;refine bodyPost_ret (v:=.tuple #[.int .u64 9223372036854775808,.int .i64 0]) (by simp[results,Tryz.results286,go_sem, *]<;>rfl) rfl ?_;exact⟨by rw[HV.out],0,rfl⟩
 ·rw[if_neg hge] at hV;have hge': ¬((d:Int)≤hi):=by omega
  have hdv:=fun w=>vB hi lo d w (by omega) HE.out.2 (by omega);rw[HE.out.1] at hdv;have hrl:P%d<d:=Nat.mod_lt _ hd0;obtain⟨q,hq⟩: ∃q,q=P/d:=⟨_,rfl⟩;obtain⟨r,hr⟩: ∃r,r=P%d:=⟨_,rfl⟩;rw[←hr] at hrl;rw[←hq,←hr] at hV hdv;obtain⟨g,hg⟩: ∃g,d=g+r:=⟨d-r,by omega⟩;have f1:IntKind.u64.wrap ((d:Int)-r)=(g:Int):=by rw[show(d:Int)-r=(g:Int) by omega];exact bk (by omega)
  have HD:=AJ hdv;clear hdv hq hr;have HG:=AJ (AH hg hV);clear hg hV;go_enter Tryz.func286,Tryz.ntmps286;go_wp2_with fail;simp only[HF.out.1,HF.out.2];refine HM.out.mono ?_;rintro e w1 ⟨rfl,rfl⟩;go_wp2_with fail;refine(HD.out _).mono ?_;rintro e w2 ⟨rfl,m,rfl⟩;obtain⟨hg,hV⟩:=HG.out;by_cases c1:g<r
  ·have c1':(g:Int)<r:=by omega
   rw[if_pos (by omega)] at hV;have HV2:=AJ hV;clear hV hg c1 hrl;go_wp2_with fail;refine bodyPost_ret (v:=.tuple #[.int .u64 (q:Int),.int .i64 1]) (by simp[results,Tryz.results286,go_sem, *]<;>rfl) rfl ?_;exact⟨by rw[HV2.out],m,rfl⟩
  ·have c1': ¬((g:Int)<r):=by omega
   by_cases c2:r=g
   ·have c2':((r:Int)==g)=true:=by simp[c2]
    rw[if_neg (by omega),if_pos (by omega)] at hV;have HV2:=AJ hV;clear hV hg c1 hrl c2;go_wp2_with fail;refine bodyPost_ret (v:=.tuple #[.int .u64 (q:Int),.int .i64 0]) (by simp[results,Tryz.results286,go_sem, *]<;>rfl) rfl ?_;exact⟨by rw[HV2.out],m,rfl⟩
   ·have c2':((r:Int)==g)=false:=by simp;omega
    rw[if_neg (by omega),if_neg (by omega)] at hV;have HV2:=AJ hV;clear hV hg c1 hrl c2;go_wp2_with fail;refine bodyPost_ret (v:=.tuple #[.int .u64 (q:Int),.int .i64 (-1)]) (by simp[results,Tryz.results286,go_sem, *]<;>rfl) rfl ?_;exact⟨by rw[HV2.out],m,rfl⟩
theorem su(k:Nat)(w:World)(hk1:k≤17):Calls Tryz.prog 252 #[.int .i64 10,.int .i64 k] w (gQ w (.int .i64 ((10^k:Nat):Int))):=by
 have hle: ∀j,j≤k→10^j≤100000000000000000:=fun j hj=>by have h1:10^j≤10^j:=Nat.pow_le_pow_left (by omega) j;have h2:10^j≤10^17:=Nat.pow_le_pow_right (by omega) (by omega);omega
 have HL:=AJ hle;clear hle;obtain⟨r,hr⟩: ∃r,r=10^k:=⟨_,rfl⟩;rw[←hr];have R:=AJ hr;clear hr;go_enter Tryz.func252,Tryz.ntmps252;go_wp2_with fail;go_loopg[5,7] k (fun gk nn i wr=> ∃(j n:Nat),j≤k∧nn=.int .i64 n∧i=.int .i64 j∧gk=k-j∧Hid (n=10^j)∧wr=w);case atStart=>exact⟨0,1,by omega,rfl,rfl,by omega,rfl,rfl⟩
 case round=>
  obtain⟨j,n,hj,rfl,rfl,rfl,hn,rfl⟩:=hrel;by_cases hlt:j<k
  ·have hi1:(j:Int)<k:=by omega
   have h2:=HL.out (j+1) (by omega);have hs2:Hid (10^(j+1)=n*10):=by show _=_;rw[Nat.pow_succ,hn.out]
   rw[hs2.out] at h2;go_wp2_with fail;go_roundg(k-(j+1));case measure=>omega
   case rel=>exact⟨j+1,n*10,by omega,by go_num,by go_num,rfl,hs2.out.symm,rfl⟩
  ·have e:j=k:=by omega
   subst e;have e:n=r:=by rw[R.out,hn.out]
   subst e;go_wp2_with fail;go_ret;exact⟨rfl,0,rfl⟩
theorem vv{a p:Nat}{e:Int}(hp:0<p)(hp1:p≤10000000000000000)(ha:a<100000000000000000)(h: ∀e',-16≤e'→e'<e→65535<gm a p e'):fu p e≤10000000000000000:=by
 by_cases he:e≤0;·unfold fu;rw[show e.toNat=0 by omega,Nat.pow_zero,Nat.mul_one];exact hp1
 ·obtain⟨j,rfl⟩: ∃j:Nat,e=(j:Int)+1:=⟨(e-1).toNat,by omega⟩;have h1:=h j (by omega) (by omega);rw[ji,Nat.div_div_eq_div_mul] at h1;have h2:65536≤a/(p*2^j):=h1;have hpj:0<p*2^j:=Nat.mul_pos hp (Nat.pow_pos (by decide));rw[Nat.le_div_iff_mul_le hpj] at h2;unfold fu;rw[show((j:Int)+1).toNat=j+1 by omega,Nat.pow_succ,←Nat.mul_assoc];generalize p*2^j=z at h2;omega
theorem least_le{a p:Nat}{e:Int}(hp:0<p)(ha:a<100000000000000000)(h: ∀e',-16≤e'→e'<e→65535<gm a p e'):e≤42:=by
 apply Int.le_of_not_gt;intro hc;have h1:=h 42 (by decide) hc;have h2:gm a p 42≤a/2^42:=by rw[show(42:Int)=((42:Nat):Int) from rfl,ji];exact Nat.div_le_div_right (Nat.div_le_self a p)
 have h3:a/2^42≤22737:=by omega
 omega
theorem dZ(n x:Int)(w:World)(ht:ql w)(hok:aV n x=true)(hn0: -100000000000000000<n)(hn1:n<100000000000000000)(hx0: -16≤x)(hx1:x≤0):Calls Tryz.prog 249 #[.agg #[.int .i64 n,.int .i64 x]] w (bW w (bo (eL n x))):=by
 have HT:=AJ ht;clear ht;have B0:=AJ (ab (ab (ae w) (.cells #[.int .i64 n,.int .i64 x] 108)) (.cells #[.int .i64 0,.int .i64 0] 104));have P0:=AJ ((ai.new w 108 #[.int .i64 n,.int .i64 x]).alloc (.cells #[.int .i64 0,.int .i64 0] 104));have P1:=AJ (ai.at (w:=w.alloc (.cells #[.int .i64 n,.int .i64 x] 108)) (g:=w.heap.size+1) (t:=104) (cs:=#[.int .i64 0,.int .i64 0]) (by simp));obtain⟨k,hk⟩: ∃k:Nat,-x=k:=⟨(-x).toNat,by omega⟩;obtain⟨p,hp⟩: ∃p,p=10^k:=⟨_,rfl⟩;obtain⟨a,ha⟩: ∃a,a=n.natAbs:=⟨_,rfl⟩;obtain⟨r,hr⟩: ∃r,r=eL n x:=⟨_,rfl⟩;rw[←hr];have hp0:0<p:=by rw[hp];exact Nat.pow_pos (by omega)
 have hp1:p≤10000000000000000:=by have:10^k≤10^16:=Nat.pow_le_pow_right (by omega) (by omega);omega
 have hPow: ∀w,Calls Tryz.prog 252 #[.int .i64 10,.int .i64 (k:Int)] w (gQ w (.int .i64 (p:Int))):=fun w=>by rw[hp];exact su k w (by omega)
 have hI:aT n:=⟨by omega,by omega⟩;have hrr: ∀e,fO a p e→ -16≤e→e≤50→r=bz (lT n (dT a p e)) e:=fun e h0 h1 h2=>by(have hkx:(-x).toNat=k:=by omega);rw[hr,sL (by rw[hkx,←hp,←ha];exact h0) h1 h2,hkx,←hp];unfold uz;rw[←ha]
 have HI:=AJ (AH hI (AH hok (AH hPow (AH hrr ha))));clear hI hok hPow hrr hr hp;have ha1:a<100000000000000000:=by omega
 have hmx:max n (-n)=(a:Int):=by omega
 have hnn:IntKind.i64.wrap (-n)= -n:=by rw[IntKind.wrap_i64];omega
 clear ha;have hnx:IntKind.i64.wrap (-x)=(k:Int):=by rw[IntKind.wrap_i64];omega
 have hau:=bk (show a<18446744073709551616 by omega);have hpu:=bk (show p<18446744073709551616 by omega);go_enter Tryz.func249,Tryz.ntmps249;go_wp2_with fail;refine(eW n x _ HI.out.1 (HT.out.below B0.out)).mono ?_;rintro e w1 ⟨rfl,hb1⟩;rw[HI.out.2.1];have Q0:=AJ (P0.out.below hb1);have Q1:=AJ (P1.out.below hb1);have B1:=AJ (ak B0.out hb1);clear hb1;have hz1:w.heap.size+1<w1.heap.size:=Q1.out.lt;obtain⟨p0,p1⟩:=Q0.out.c2;go_wp2_with fail;go_cut[4,5] (fun s4 s5 wx=>s4=.int .u64 (a:Int)∧s5=.int .u64 (p:Int)∧Below w1.heap.size w1 wx);case first=>have Q:=AJ (yV fun n=>HI.out.2.2.1 (w1.drewN n));go_quiet((go_at_call 252;exact Q.out _));go_wp2_with fail;go_meet;exact⟨by simp[hau,hmx],by simp[hpu],below_drewN (ae w1) _⟩
 case rest=>
  obtain⟨rfl,rfl,hb2⟩:=hcut;have R0:=AJ (Q0.out.below hb2);have R1:=AJ (Q1.out.below hb2);have B2:=AJ (ak B1.out hb2);clear hb2 p0 p1 hau hpu hmx hnn hnx;go_wp2_with fail;go_loopg[6] 66 (fun gk u6 wr=> ∃e:Int,u6=.int .i64 e∧ -16≤e∧e≤42∧gk=(50-e).toNat∧Hid (∀e',-16≤e'→e'<e→65535<gm a p e')∧ai wr w.heap.size 108 #[.int .i64 n,.int .i64 x]∧ai wr (w.heap.size+1) 104 #[.int .i64 0,.int .i64 0]∧Below w.heap.size w wr);case atStart=>exact⟨-16,rfl,by decide,by decide,rfl,fun e' h1 h2=>by omega,R0.out,R1.out,B2.out⟩
  case round=>
   obtain⟨e,rfl,he0,he1,rfl,hes,hR0,hR1,hbel⟩:=hrel;have hden:=vv hp0 hp1 ha1 hes.out;have HX:=AJ (AH hR0 (AH hR1 hbel));clear hR0 hR1 hbel;have he50:e≤50:=by omega
   go_upto_if 35 with fail;go_cut[7,8] (fun s7 s8 wx=> ∃up dn:Nat,s7=.int .u64 up∧s8=.int .u64 dn∧up≤16∧Hid (a*2^up=l6 a e∧p*dn=fu p e)∧wx=wr)
   case first=>
    by_cases hneg:e<0
    ·obtain⟨s,hs⟩: ∃s:Nat,-e=s:=⟨(-e).toNat,by omega⟩;have hsw:IntKind.i64.wrap (-e)=(s:Int):=by rw[IntKind.wrap_i64];omega
     have hsu:=bk (show s<18446744073709551616 by omega);have hs16:s≤16:=by omega
     have hnd:Hid (a*2^s=l6 a e∧p*1=fu p e):=by unfold l6 fu;exact⟨by rw[show(-e).toNat=s by omega],by rw[show e.toNat=0 by omega,Nat.pow_zero]⟩
     go_wp2_with fail;go_meet;exact⟨s,1,by simp[hsu],rfl,hs16,hnd,rfl⟩
    ·obtain⟨j,rfl⟩: ∃j:Nat,e=j:=⟨e.toNat,by omega⟩;have hj64:min j 64=j:=by omega
     have hju:=bk (show j<18446744073709551616 by omega);obtain⟨dn,hdn,hdni⟩: ∃dn:Nat,dn=2^j∧(2:Int)^j=(dn:Int):=⟨_,rfl,by simp⟩;have hdw:=bk (show dn<18446744073709551616 by rw[hdn];exact Nat.lt_of_le_of_lt (Nat.pow_le_pow_right (by decide) (show j≤42 by omega)) (by decide));have hnd:Hid (a*2^0=l6 a j∧p*dn=fu p j):=by unfold l6 fu;exact⟨by rw[show(-(j:Int)).toNat=0 by omega],by rw[hdn,Int.toNat_natCast]⟩
     have HD:=AJ (AH hdni hdw);clear hdn hdni hdw;go_wp2_with fail;go_meet;exact⟨0,dn,rfl,by simp only[HD.out.1,HD.out.2,Int.one_mul],by decide,hnd,rfl⟩
   case rest=>
    rename_i wc2;obtain⟨up,dn,rfl,rfl,hup,hnd,rfl⟩:=hcut;obtain⟨D,hD⟩: ∃D,D=p*dn:=⟨_,rfl⟩;obtain⟨Nu,hNu⟩: ∃N,N=a*2^up:=⟨_,rfl⟩;have hDe:D=fu p e:=by rw[hD];exact hnd.out.2
    have hNe:Nu=l6 a e:=by rw[hNu];exact hnd.out.1
    have hDl:D≤10000000000000000:=by rw[hDe];exact hden
    have hD0:0<D:=by rw[hDe];exact Nat.mul_pos hp0 (Nat.pow_pos (by decide))
    have hdn1:dn≤D:=by rw[hD];exact Nat.le_mul_of_pos_left _ hp0
    have hqe:gm a p e=Nu/D:=by unfold gm;rw[hNe,hDe]
    have hrde:wb a p e=Nu%D∧fu p e=D:=by unfold wb;rw[hNe,hDe];exact⟨rfl,rfl⟩
    have hMu:=fun w=>Tryz.bits_Mul64 p dn (by omega) (by omega) w;have hDw:IntKind.u64.wrap ((p:Int)*dn)=(D:Int):=by rw[show(p:Int)*dn=(D:Int) by rw[hD];simp];exact bk (by omega)
    rw[←hD,Nat.div_eq_of_lt (show D<18446744073709551616 by omega)] at hMu;obtain⟨lw,hlw⟩: ∃l,l=D%18446744073709551616:=⟨_,rfl⟩;rw[←hlw] at hMu;have hSh:=fun w=>r9 a up D w (by omega) (by omega) hD0 (by omega);rw[←hNu] at hSh;have HM:=AJ (AH hMu hSh);have HQ:=AJ (AH hqe hrde);have HDN:=AJ (AH hDl hD0);clear hMu hSh hqe hrde hNe hDe hNu hD hlw hdn1 hDl hD0 hden hnd;go_wp2_with fail;refine(HM.out.1 _).mono ?_;rintro e9 w9 ⟨rfl,rfl⟩;go_wp2_with fail;refine(HM.out.2 _).mono ?_;rintro e9 w9 ⟨rfl,m,rfl⟩;unfold kE;by_cases hbig:D≤Nu/18446744073709551616
    ·rw[if_pos hbig];have hq:65535<gm a p e:=by rw[HQ.out.1];(have h1:D*18446744073709551616≤Nu:=by rw[←Nat.le_div_iff_mul_le (by decide)];exact hbig);(have h2:18446744073709551616≤Nu/D:=by rw[Nat.le_div_iff_mul_le HDN.out.2,Nat.mul_comm];exact h1);exact Nat.lt_of_lt_of_le (by decide) h2
     have hes2: ∀e',-16≤e'→e'<e+1→65535<gm a p e':=fun e' h1 h2=>by rcases Int.lt_or_eq_of_le (Int.le_of_lt_add_one h2) with h3|h3;(·exact hes.out e' h1 h3);·rw[h3];exact hq
     have HN:=AJ (AH hes2 (least_le hp0 ha1 hes2));clear hq hes2 hbig;go_wp2_with fail;go_roundg(50-(e+1)).toNat;case measure=>omega
     case rel=>exact⟨e+1,by go_num,by omega,HN.out.2,rfl,HN.out.1,HX.out.1.drewN m,HX.out.2.1.drewN m,below_drewN HX.out.2.2 m⟩
    ·rw[if_neg hbig];obtain⟨q,hq⟩: ∃q,q=Nu/D:=⟨_,rfl⟩;obtain⟨rr,hrr⟩: ∃r,r=Nu%D:=⟨_,rfl⟩;rw[←hq,←hrr];have HQ2:=AJ (AH hq hrr);by_cases h65:65535<q
     ·have h65':(65535:Int)<q:=by omega
      have hes2: ∀e',-16≤e'→e'<e+1→65535<gm a p e':=fun e' h1 h2=>by rcases Int.lt_or_eq_of_le (Int.le_of_lt_add_one h2) with h3|h3;(·exact hes.out e' h1 h3);·rw[h3,HQ.out.1,←hq];exact h65
      have HN:=AJ (AH hes2 (least_le hp0 ha1 hes2));clear hes2 hbig h65 hq hrr;generalize(if D<2*rr then(1:Int) else if 2*rr=D then 0 else-1)=hv;go_wp2_with fail;go_roundg(50-(e+1)).toNat;case measure=>omega
      case rel=>exact⟨e+1,by go_num,by omega,HN.out.2,rfl,HN.out.1,HX.out.1.drewN m,HX.out.2.1.drewN m,below_drewN HX.out.2.2 m⟩
     ·have h65': ¬((65535:Int)<q):=by omega
      have hle:fO a p e:=⟨by rw[HQ.out.1,←hq];omega,hes.out⟩;obtain⟨rm,hrm⟩: ∃rm,rm=dT a p e:=⟨_,rfl⟩;have hrmq:rm=if D<2*rr∨(2*rr=D∧q%2=1) then q+1 else q:=by rw[hrm];unfold dT;rw[HQ.out.2.2,HQ.out.2.1,HQ.out.1,←hq,←hrr]
      have hrl:rm≤65536:=by rw[hrm];exact pB hle.1
      have hrf:=HI.out.2.2.2.1 e hle he0 (by omega);rw[←hrm] at hrf;have HR:=AJ (AH hrf (AH hrl hrmq));have hq65:q≤65535:=by omega
      clear hrf hrmq hrm hle hbig h65 hq hrr;obtain⟨hv,hhv⟩: ∃hv:Int,hv=(if D<2*rr then 1 else if 2*rr=D then 0 else-1):=⟨_,rfl⟩;rw[←hhv];have HH:=AJ hhv;clear hhv;go_upto_region 15 with fail;go_cut[71] (fun s71 wx=> ∃b:Bool,s71=.bool b∧Hid (rm=if b then q+1 else q)∧ai wx w.heap.size 108 #[.int .i64 n,.int .i64 x]∧ai wx (w.heap.size+1) 104 #[.int .i64 0,.int .i64 0]∧Below w.heap.size w wx)
      case first=>
       rcases Nat.lt_trichotomy D (2*rr) with c|c|c
       ·have hv1:hv=1:=by rw[HH.out,if_pos c]
        subst hv1;have HB:=AJ (show rm=q+1 by rw[HR.out.2.2,if_pos (.inl c)]);clear c;go_wp2_with fail;go_meet;exact⟨true,rfl,HB.out,HX.out.1.drewN m,HX.out.2.1.drewN m,below_drewN HX.out.2.2 m⟩
       ·have hv1:hv=0:=by rw[HH.out,if_neg (by omega),if_pos c.symm]
        subst hv1;by_cases hpar:q%2=1
        ·have hp2:(((q:Int)%2)==1)=true:=by simp;omega
         have HB:=AJ (show rm=q+1 by rw[HR.out.2.2,if_pos (.inr ⟨c.symm,hpar⟩)]);clear c hpar;go_wp2_with fail;go_meet;exact⟨true,by first|rfl|simpa using hp2,HB.out,HX.out.1.drewN m,HX.out.2.1.drewN m,below_drewN HX.out.2.2 m⟩
        ·have hp2:(((q:Int)%2)==1)=false:=by simp;omega
         have HB:=AJ (show rm=q by rw[HR.out.2.2,if_neg (by omega)]);clear c hpar;go_wp2_with fail;go_meet;exact⟨false,by first|rfl|simpa using hp2,HB.out,HX.out.1.drewN m,HX.out.2.1.drewN m,below_drewN HX.out.2.2 m⟩
       ·have hv1:hv= -1:=by rw[HH.out,if_neg (by omega),if_neg (by omega)]
        subst hv1;have HB:=AJ (show rm=q by rw[HR.out.2.2,if_neg (by omega)]);clear c;go_wp2_with fail;go_meet;exact⟨false,rfl,HB.out,HX.out.1.drewN m,HX.out.2.1.drewN m,below_drewN HX.out.2.2 m⟩
      case rest=>
       obtain⟨b,rfl,hb,hw1,hw2,hw3⟩:=hcut;have HB:=AJ hb.out;have HW:=AJ (AH hw1 (AH hw2 hw3));clear hb hw1 hw2 hw3;have hrl:=HR.out.2.1;go_upto_if 71 with fail;go_cut[11] (fun s11 wx=>s11=.int .u64 (rm:Int)∧ai wx w.heap.size 108 #[.int .i64 n,.int .i64 x]∧ai wx (w.heap.size+1) 104 #[.int .i64 0,.int .i64 0]∧Below w.heap.size w wx)
       case first=>
        cases b
        ·have hrq:rm=q:=by have:=HB.out;simpa using this
         subst hrq;go_wp2_with fail;go_meet;exact⟨rfl,HW.out.1,HW.out.2.1,HW.out.2.2⟩
        ·have hrq:rm=q+1:=by have:=HB.out;simpa using this
         subst hrq;have hqw:IntKind.u64.wrap ((q:Int)+1)=(q:Int)+1:=by rw[IntKind.wrap_u64];omega
         go_wp2_with fail;go_meet;exact⟨by first|rfl|go_num,HW.out.1,HW.out.2.1,HW.out.2.2⟩
       case rest=>
        obtain⟨rfl,hw1,hw2,hw3⟩:=hcut;obtain⟨p0,p1⟩:=hw1.c2;have HW:=AJ (AH hw1 (AH hw2 hw3));clear hw1 hw2 hw3;have hri:IntKind.i64.wrap (rm:Int)=(rm:Int):=by rw[IntKind.wrap_i64];omega
        by_cases hneg:n<0
        ·have hX:bz (-(rm:Int)) e=r:=by rw[HR.out.1];congr 1;unfold lT;rw[if_pos hneg]
         have HX9:=AJ hX;clear hX;go_wp2_with fail;refine(iS (-(rm:Int)) e _ (by omega) (by omega) (by omega)).mono ?_;rintro e9 w9 ⟨rfl,hb9⟩;rw[HX9.out];have HZ9:=AJ (AH (HW.out.2.1.below hb9) (ak HW.out.2.2 hb9));clear hb9;have hz9:=HZ9.out.1.lt;have f0:=HZ9.out.1.frozen 0;have f1:=HZ9.out.1.frozen 1;obtain⟨y0,y1⟩:=HZ9.out.1.c2;rcases r with _|⟨m',e'⟩;·unfold bo;go_wp2_with fail;refine bodyPost_ret (v:=bo none) (by simp[results,bo,Tryz.results249,go_sem, *]<;>rfl) rfl ?_;exact⟨rfl,dr HZ9.out.2 (by omega) _ _⟩
         ·unfold bo;go_wp2_with fail;refine bodyPost_ret (v:=bo (some (m',e'))) (by simp[results,bo,Tryz.results249,go_sem, *]<;>rfl) rfl ?_;exact⟨rfl,dr HZ9.out.2 (by omega) _ _⟩
        ·have hX:bz (rm:Int) e=r:=by rw[HR.out.1];congr 1;unfold lT;rw[if_neg hneg]
         have HX9:=AJ hX;clear hX;go_wp2_with fail;refine(iS (rm:Int) e _ (by omega) (by omega) (by omega)).mono ?_;rintro e9 w9 ⟨rfl,hb9⟩;rw[HX9.out];have HZ9:=AJ (AH (HW.out.2.1.below hb9) (ak HW.out.2.2 hb9));clear hb9;have hz9:=HZ9.out.1.lt;have f0:=HZ9.out.1.frozen 0;have f1:=HZ9.out.1.frozen 1;obtain⟨y0,y1⟩:=HZ9.out.1.c2;rcases r with _|⟨m',e'⟩;·unfold bo;go_wp2_with fail;refine bodyPost_ret (v:=bo none) (by simp[results,bo,Tryz.results249,go_sem, *]<;>rfl) rfl ?_;exact⟨rfl,dr HZ9.out.2 (by omega) _ _⟩
         ·unfold bo;go_wp2_with fail;refine bodyPost_ret (v:=bo (some (m',e'))) (by simp[results,bo,Tryz.results249,go_sem, *]<;>rfl) rfl ?_;exact⟨rfl,dr HZ9.out.2 (by omega) _ _⟩
end Go.Proofs.YtodpdjehjllhdaaGreatDoor
