/- Part of a proof: contracts and plain laws. -/
import Derived.Test.YtodpdjehjllhdaaGreatDoorZ29
import Derived.Laws.MathBits
set_option linter.unusedVariables false
set_option maxRecDepth 100000
set_option maxHeartbeats 20000000
namespace Go.Proofs.YtodpdjehjllhdaaGreatDoor
open Go.RowKit
theorem vD{y:Nat}(h0:0<y)(h1:y<18446744073709551616): ∃s:Nat,s≤63∧(64-(Lib.bitLen y:Int))=(s:Int)∧9223372036854775808≤y*2^s∧y*2^s<18446744073709551616:=by
 obtain⟨h2,h3,h4⟩:=Lib.bitLenAux_bounds 64 y h1 (by omega);have hb:Lib.bitLen y=Lib.bitLenAux 64 y:=rfl;have h5:Lib.bitLenAux 64 y≤64:=by apply Nat.le_of_not_lt;intro hc;have:=Nat.pow_le_pow_right (show 0<2 by decide) (show 64≤Lib.bitLenAux 64 y-1 by omega);omega
 refine⟨64-Lib.bitLenAux 64 y,by omega,by rw[hb];omega,?_,?_⟩
 ·have h6:2^(Lib.bitLenAux 64 y-1)*2^(64-Lib.bitLenAux 64 y)=9223372036854775808:=by rw[←Nat.pow_add,show Lib.bitLenAux 64 y-1+(64-Lib.bitLenAux 64 y)=63 by omega]
  rw[←h6];exact Nat.mul_le_mul_right _ h3
 ·have h6:2^(Lib.bitLenAux 64 y)*2^(64-Lib.bitLenAux 64 y)=18446744073709551616:=by rw[←Nat.pow_add,show Lib.bitLenAux 64 y+(64-Lib.bitLenAux 64 y)=64 by omega]
  rw[←h6];exact Nat.mul_lt_mul_of_pos_right h4 (Nat.pow_pos (by decide))
theorem we{U T q Y V:Nat}(hq:q=(U*4294967296+T)/Y)(hV:V=(U*4294967296+T)%Y)(hY:0<Y)(hY2:Y<18446744073709551616):IntKind.u64.wrap (IntKind.u64.wrap (IntKind.u64.wrap ((U:Int)*4294967296)+(T:Int))-IntKind.u64.wrap ((q:Int)*(Y:Int)))=(V:Int):=by
 have h:=Nat.div_add_mod (U*4294967296+T) Y;have hl:=Nat.mod_lt (U*4294967296+T) hY;rw[←hq,←hV] at h;rw[←hV] at hl;obtain⟨C,hC⟩: ∃C,C=Y*q:=⟨_,rfl⟩;rw[←hC] at h;have hCi:(q:Int)*(Y:Int)=(C:Int):=by rw[hC,Nat.mul_comm];simp
 rw[hCi,IntKind.wrap_u64,IntKind.wrap_u64,IntKind.wrap_u64,IntKind.wrap_u64];clear hCi hC hq hV;omega
theorem tC(hi lo y:Nat)(w:World)(hy:y<18446744073709551616)(hlo:lo<18446744073709551616)(hh:hi<y):Calls Tryz.prog 325 #[.int .u64 hi,.int .u64 lo,.int .u64 y] w (nc w (.tuple #[.int .u64 (((hi*18446744073709551616+lo)/y:Nat):Int),.int .u64 (((hi*18446744073709551616+lo)%y:Nat):Int)])):=by
 obtain⟨N,hN⟩: ∃N,N=hi*18446744073709551616+lo:=⟨_,rfl⟩;rw[←hN];have hyb:((y:Int)==0)=false:=by simp;omega
 have hle: ¬((y:Int)≤hi):=by omega
 by_cases h0:hi=0
 ·subst h0;have hNl:N=lo:=by omega
  subst hNl;have hd1:(N:Int)/y=((N/y:Nat):Int):=rfl;have hd2:(N:Int)%y=((N%y:Nat):Int):=rfl;have hd3:(N:Int).tdiv y=((N/y:Nat):Int):=by rw[Int.tdiv_eq_ediv_of_nonneg (by omega)];rfl
  have hd4:(N:Int).tmod y=((N%y:Nat):Int):=by rw[Int.tmod_eq_emod_of_nonneg (by omega)];rfl
  have hyp:(0:Int)<y:=by omega
  obtain⟨Q,hQ⟩: ∃Q,Q=N/y:=⟨_,rfl⟩;obtain⟨R,hR⟩: ∃R,R=N%y:=⟨_,rfl⟩;rw[←hQ] at hd1 hd3 ⊢;rw[←hR] at hd2 hd4 ⊢;have hwQ:=bd (show Q<18446744073709551616 by rw[hQ];exact Nat.lt_of_le_of_lt (Nat.div_le_self _ _) hlo);have hwR:=bd (show R<18446744073709551616 by rw[hR];exact Nat.lt_of_le_of_lt (Nat.mod_le _ _) hlo);clear hQ hR hN;go_enter Tryz.func325,Tryz.ntmps325;go_wp2_with fail;go_quiet(fail);go_wp2_with fail;refine bodyPost_ret (v:=.tuple #[.int .u64 (Q:Int),.int .u64 (R:Int)]) (by simp[results,Tryz.results325,go_sem, *]<;>rfl) rfl ?_;exact⟨rfl,_,rfl⟩
 ·have hib:((hi:Int)==0)=false:=by simp[h0]
  obtain⟨s,hs63,hs,hn1,hn2⟩:=vD (show 0<y by omega) hy;have hLZ:=Tryz.bits_LeadingZeros64 (y:Int) w (by omega) (by omega);rw[Int.toNat_natCast,hs] at hLZ;have HL:=xQ hLZ;clear hLZ hs;have HY:=xQ (xP hn1 hn2);clear hn1 hn2;go_enter Tryz.func325,Tryz.ntmps325;go_wp2_with fail;refine HL.out.mono ?_;rintro e w1 ⟨rfl,rfl⟩;obtain⟨Y,hY,hYi⟩: ∃Y:Nat,Y=y*2^s∧(y:Int)*2^s=(Y:Int):=⟨_,rfl,by simp⟩;have hYl:9223372036854775808≤Y∧Y<18446744073709551616:=by rw[hY];exact HY.out
  have hYw:=bd hYl.2;obtain⟨A,hA,hAi⟩: ∃A:Nat,A=Y/4294967296∧(Y:Int)/4294967296=(A:Int):=⟨_,rfl,by simp⟩;have hBi:=wq hYl.2;obtain⟨Bn,hB⟩: ∃B,B=Y%4294967296:=⟨_,rfl⟩;rw[←hB] at hBi;have HF:=xQ (xP hYi (xP hYw (xP hAi hBi)));have HE:=xQ (xP hY (xP hYl (xP hA hB)));have hS0:0<2^s:=Nat.pow_pos (by decide);have hCS:2^(64-s)*2^s=18446744073709551616:=by rw[←Nat.pow_add,show 64-s+s=64 by omega]
  have hin:=xl hCS hS0 (Nat.pow_pos (by decide)) hlo hh;rw[←hN,←hY] at hin;have hiS:hi*2^s<18446744073709551616:=by have h1:hi*2^s≤y*2^s:=Nat.mul_le_mul_right _ (Nat.le_of_lt hh);rw[←hY] at h1;exact Nat.lt_of_le_of_lt h1 hYl.2
  obtain⟨Z,hZ,hZi⟩: ∃Z:Nat,Z=hi*2^s∧(hi:Int)*2^s=(Z:Int):=⟨_,rfl,by simp⟩;obtain⟨X,hX,hXi⟩: ∃X:Nat,X=lo/2^(64-s)∧(lo:Int)/2^(64-s)=(X:Int):=⟨_,rfl,by simp⟩;rw[←hZ] at hiS hin;rw[←hX] at hin;have hZw:=bd hiS;obtain⟨U,hU⟩: ∃U:Nat,U=Z+X:=⟨_,rfl⟩;have hor:bits .or .u64 (Z:Int) (X:Int)=(U:Int):=by rw[hU,hZ];exact xy (by rw[←hZ];exact hiS) hin.2.2 hs63
  obtain⟨T10,hT10⟩: ∃T:Nat,T=lo*2^s%18446744073709551616:=⟨_,rfl⟩;have hT10i:IntKind.u64.wrap ((lo:Int)*2^s)=(T10:Int):=by rw[IntKind.wrap_u64,hT10];simp
  have hT10l:T10<18446744073709551616:=by rw[hT10];exact Nat.mod_lt _ (by decide)
  obtain⟨T1,hT1,hT1i⟩: ∃T1:Nat,T1=T10/4294967296∧(T10:Int)/4294967296=(T1:Int):=⟨_,rfl,by simp⟩;have hT0i:=wq hT10l;obtain⟨T0,hT0⟩: ∃T,T=T10%4294967296:=⟨_,rfl⟩;rw[←hT0] at hT0i;rw[←hT10,←hU] at hin;have HF2:=xQ (xP hZi (xP hZw (xP hXi (xP hor (xP hT10i (xP hT1i hT0i))))));have HE2:=xQ (xP hin (xP hT1 (xP hT0 (xP hT10l hS0))));clear hYi hYw hAi hBi hY hYl hA hB hN hS0 hCS hin hiS hZ hZi hX hXi hZw hU hor hT10 hT10i hT10l hT1 hT1i hT0 hT0i;go_upto_region 9 with fail;simp only[HF.out.1,HF.out.2.1];go_upto_region 10 with fail;simp only[HF.out.2.2.1];go_upto_region 11 with fail;simp only[HF.out.2.2.2];go_upto_region 12 with fail;simp only[HF2.out.1,HF2.out.2.1,HF2.out.2.2.1,HF2.out.2.2.2.1];go_upto_region 13 with fail;simp only[HF2.out.2.2.2.2.1];go_upto_region 14 with fail;simp only[HF2.out.2.2.2.2.2.1];go_upto_region 15 with fail;simp only[HF2.out.2.2.2.2.2.2];have hA0:(0:Int)<A:=by have h:=HE.out.2.2.1;have h2:=HE.out.2.1.1;omega
  have hq0:=HE.out.2.2.1;obtain⟨q0,hq0',hq0i⟩: ∃q0:Nat,q0=U/A∧(U:Int)/A=(q0:Int):=⟨_,rfl,rfl⟩;have hUl:U<18446744073709551616:=Nat.lt_trans HE2.out.1.2.1 HE.out.2.1.2;have hq0w:=bd (Nat.lt_of_le_of_lt (Nat.div_le_self U A) hUl);rw[←hq0'] at hq0w;have hqA:q0*A≤U:=by rw[hq0'];exact Nat.div_mul_le_self U A
  obtain⟨M0,hM0,hM0i⟩: ∃M:Nat,M=q0*A∧(q0:Int)*A=(M:Int):=⟨_,rfl,by simp⟩;have hM0w:=bd (show M0<18446744073709551616 by rw[hM0];exact Nat.lt_of_le_of_lt hqA hUl);obtain⟨r0,hr0,hr0i⟩: ∃r:Nat,M0+r=U∧(U:Int)-M0=(r:Int):=⟨U-M0,by omega,by omega⟩;have hr0w:=bd (show r0<18446744073709551616 by omega);have HF3:=xQ (xP hq0i (xP hq0w (xP hM0i (xP hM0w (xP hr0i hr0w)))));have HE3:=xQ (xP hq0' (xP hM0 (xP hr0 hUl)));clear hq0 hq0' hq0i hq0w hqA hM0 hM0i hM0w hr0 hr0i hr0w hUl;go_upto_region 16 with fail;simp only[HF3.out.1,HF3.out.2.1];go_upto_block 0 with fail;simp only[HF3.out.2.2.1,HF3.out.2.2.2.1,HF3.out.2.2.2.2.1,HF3.out.2.2.2.2.2];go_cut[15,16] (fun s15 s16 wx=> ∃q r:Nat,s15=.int .u64 q∧s16=.int .u64 r∧q=(U*4294967296+T1)/Y∧wx=w1)
  case first=>
   have hY0:0<Y:=by have:=HE.out.2.1.1;omega
   have hYe:Y=A*4294967296+Bn:=by have h1:=HE.out.2.2.1;have h2:=HE.out.2.2.2;have h3:=Nat.div_add_mod Y 4294967296;rw[←h1,←h2] at h3;omega
   have hAl:A<4294967296:=by have h1:=HE.out.2.1.2;clear hA0;omega
   have hBl:Bn<4294967296:=by rw[HE.out.2.2.2];exact Nat.mod_lt _ (by decide)
   have hTl:T1<4294967296:=by rw[HE2.out.2.1];have h:=HE2.out.2.2.2.1;omega
   have hUY:U<Y:=HE2.out.1.2.1;have hA0':0<A:=by omega
   have hinit:(U*4294967296+T1)/Y≤q0:=by rw[HE3.out.1];exact tc hYe hA0' hTl
   have hr0l:r0<4294967296:=by(have h1:r0=U%A:=by have h2:=Nat.div_add_mod U A;rw[←HE3.out.1] at h2;have h3:=HE3.out.2.2.1;rw[HE3.out.2.1,Nat.mul_comm] at h3;omega);rw[h1];exact Nat.lt_trans (Nat.mod_lt _ hA0') hAl
   have hqr0:q0*A+r0=U:=by rw[←HE3.out.2.1];exact HE3.out.2.2.1
   have hqmax:q0≤8589934591:=by(have h1:2147483648≤A:=by have h2:=HE.out.2.1.1;omega);apply Nat.le_of_not_lt;intro hc;have h2:8589934592*2147483648≤q0*A:=Nat.mul_le_mul hc h1;have h3:=HE.out.2.1.2;omega
   have HL2:=xQ (xP hYe (xP hBl (xP hTl (xP hUY (xP hY0 (xP hinit hqr0))))));clear hYe hTl hUY hY0 hinit hqr0 hA0';go_wp2_with fail;go_loopg[15,16] q0 (fun gk s15 s16 wr=> ∃q r:Nat,s15=.int .u64 q∧s16=.int .u64 r∧gk=q∧q≤8589934591∧r<4294967296∧Hid (q*A+r=U∧(U*4294967296+T1)/Y≤q)∧wr=w1);case atStart=>exact⟨q0,r0,rfl,rfl,rfl,hqmax,hr0l,⟨HL2.out.2.2.2.2.2.2,HL2.out.2.2.2.2.2.1⟩,rfl⟩
   case round=>
    clear hqmax hr0l;obtain⟨q,r,rfl,rfl,hgk,hqm,hrl,hqr,rfl⟩:=hrel;by_cases hge:4294967296≤q
    ·have hge':(4294967296:Int)≤q:=by omega
     have hq17:=sW HL2.out.2.2.2.1 HL2.out.2.2.1 hge;have hq1:1≤q:=Nat.lt_of_le_of_lt (Nat.zero_le _) hq17;obtain⟨q',hq'⟩: ∃q',q=q'+1:=⟨q-1,by omega⟩;have f4:IntKind.u64.wrap ((q:Int)-1)=(q':Int):=by rw[hq',show((q'+1:Nat):Int)-1=(q':Int) by omega];exact bd (by omega)
     have f5:IntKind.u64.wrap ((r:Int)+A)=((r+A:Nat):Int):=bd (by omega);obtain⟨r',hr'⟩: ∃r',r'=r+A:=⟨_,rfl⟩;rw[←hr'] at f5;have hinv:q'*A+r'=U:=by have h:=hqr.out.1;rw[hq',Nat.add_mul,Nat.one_mul] at h;omega
     have hQq:(U*4294967296+T1)/Y≤q':=by omega
     by_cases hbr:4294967296≤r'
     ·have hbr':(4294967296:Int)≤r':=by omega
      have HBR:=xQ (jU HL2.out.1 HL2.out.2.1 HL2.out.2.2.2.1 hinv hQq hbr);clear hinv hQq hbr hr' hq' hq17;go_wp2_with fail;go_meet;exact⟨q',r',rfl,rfl,HBR.out,rfl⟩
     ·have hbr': ¬((4294967296:Int)≤r'):=by omega
      have HIN:=xQ (xP hinv (xP hQq hq'));have hrl':r'<4294967296:=by omega
      clear hinv hQq hbr hr' hq' hq17;go_wp2_with fail;go_roundg q';case measure=>have:=HIN.out.2.2;omega
      case rel=>exact⟨q',r',rfl,rfl,rfl,by have:=HIN.out.2.2;omega,hrl',⟨HIN.out.1,HIN.out.2.1⟩,rfl⟩
    ·have hge':decide ((4294967296:Int)≤q)=false:=decide_eq_false (by omega);obtain⟨M,hM⟩: ∃M,M=q*Bn:=⟨_,rfl⟩;have hMl:M≤4294967295*4294967295:=by rw[hM];exact Nat.mul_le_mul (by omega) (by have:=HL2.out.2.1;omega)
     have f1:IntKind.u64.wrap ((q:Int)*Bn)=(M:Int):=by rw[show(q:Int)*Bn=(M:Int) by rw[hM];simp];exact bd (by omega)
     obtain⟨K,hK⟩: ∃K,K=4294967296*r:=⟨_,rfl⟩;have f2:IntKind.u64.wrap (4294967296*(r:Int))=(K:Int):=by rw[show 4294967296*(r:Int)=(K:Int) by omega];exact bd (by omega)
     obtain⟨S2,hS2⟩: ∃S2,S2=K+T1:=⟨_,rfl⟩;have f3:IntKind.u64.wrap ((K:Int)+T1)=(S2:Int):=by rw[show(K:Int)+T1=(S2:Int) by omega];exact bd (by have:=HL2.out.2.2.1;omega)
     by_cases hgt:S2<M
     ·have hgt':(S2:Int)<M:=by omega
      have hq17:=v8 (t:=T1) HL2.out.1 HL2.out.2.2.2.2.1 hqr.out.1 (by rw[←hM,←hK,←hS2];exact hgt);clear hM hK hS2 hMl hgt;have hq1:1≤q:=Nat.lt_of_le_of_lt (Nat.zero_le _) hq17;obtain⟨q',hq'⟩: ∃q',q=q'+1:=⟨q-1,by omega⟩;have f4:IntKind.u64.wrap ((q:Int)-1)=(q':Int):=by rw[hq',show((q'+1:Nat):Int)-1=(q':Int) by omega];exact bd (by omega)
      have f5:IntKind.u64.wrap ((r:Int)+A)=((r+A:Nat):Int):=bd (by omega);obtain⟨r',hr'⟩: ∃r',r'=r+A:=⟨_,rfl⟩;rw[←hr'] at f5;have hinv:q'*A+r'=U:=by have h:=hqr.out.1;rw[hq',Nat.add_mul,Nat.one_mul] at h;omega
      have hQq:(U*4294967296+T1)/Y≤q':=by omega
      by_cases hbr:4294967296≤r'
      ·have hbr':(4294967296:Int)≤r':=by omega
       have HBR:=xQ (jU HL2.out.1 HL2.out.2.1 HL2.out.2.2.2.1 hinv hQq hbr);clear hinv hQq hbr hr' hq' hq17;go_wp2_with fail;go_meet;exact⟨q',r',rfl,rfl,HBR.out,rfl⟩
      ·have hbr': ¬((4294967296:Int)≤r'):=by omega
       have HIN:=xQ (xP hinv (xP hQq hq'));have hrl':r'<4294967296:=by omega
       clear hinv hQq hbr hr' hq' hq17;go_wp2_with fail;go_roundg q';case measure=>have:=HIN.out.2.2;omega
       case rel=>exact⟨q',r',rfl,rfl,rfl,by have:=HIN.out.2.2;omega,hrl',⟨HIN.out.1,HIN.out.2.1⟩,rfl⟩
     ·have hgt': ¬((S2:Int)<M):=by omega
      have HEND:=xQ (rN (t:=T1) HL2.out.1 HL2.out.2.2.2.2.1 hqr.out.1 hqr.out.2 (by rw[←hM,←hK,←hS2];omega));clear hM hK hS2 hMl hgt;go_wp2_with fail;go_meet;exact⟨q,r,rfl,rfl,HEND.out,rfl⟩
  case rest=>
   obtain⟨q,r,rfl,rfl,hq,rfl⟩:=hcut;obtain⟨V1,hV1⟩: ∃V1,V1=(U*4294967296+T1)%Y:=⟨_,rfl⟩;have HQ:=xQ (xP hq hV1);clear hq hV1;have HY0:=xQ (show 0<Y by have:=HE.out.2.1.1;omega);have HVY:=xQ (show V1<Y by rw[HQ.out.2];exact Nat.mod_lt _ HY0.out);have HSB:=xQ (we HQ.out.1 HQ.out.2 HY0.out HE.out.2.1.2);go_upto_region 22 with fail;simp only[HSB.out];obtain⟨q5,hq5x,hq5i⟩: ∃q5:Nat,q5=V1/A∧(V1:Int)/A=(q5:Int):=⟨_,rfl,rfl⟩;have hVl:V1<18446744073709551616:=Nat.lt_trans HVY.out HE.out.2.1.2;have hq5w:=bd (Nat.lt_of_le_of_lt (Nat.div_le_self V1 A) hVl);rw[←hq5x] at hq5w;have hqA5:q5*A≤V1:=by rw[hq5x];exact Nat.div_mul_le_self V1 A
   obtain⟨M5,hM5,hM5i⟩: ∃M:Nat,M=q5*A∧(q5:Int)*A=(M:Int):=⟨_,rfl,by simp⟩;have hM5w:=bd (show M5<18446744073709551616 by rw[hM5];exact Nat.lt_of_le_of_lt hqA5 hVl);obtain⟨r5,hr5,hr5i⟩: ∃r:Nat,M5+r=V1∧(V1:Int)-M5=(r:Int):=⟨V1-M5,by omega,by omega⟩;have hr5w:=bd (show r5<18446744073709551616 by omega);have HF6:=xQ (xP hq5i (xP hq5w (xP hM5i (xP hM5w (xP hr5i hr5w)))));have HE6:=xQ (xP hq5x (xP hM5 (xP hr5 hVl)));clear hq5x hq5i hq5w hqA5 hM5 hM5i hM5w hr5 hr5i hr5w hVl;go_upto_region 23 with fail;simp only[HF6.out.1,HF6.out.2.1];go_upto_block 2 with fail;simp only[HF6.out.2.2.1,HF6.out.2.2.2.1,HF6.out.2.2.2.2.1,HF6.out.2.2.2.2.2];go_cut[18,16] (fun s15 s16 wx=> ∃q r:Nat,s15=.int .u64 q∧s16=.int .u64 r∧q=(V1*4294967296+T0)/Y∧wx=wc)
   case first=>
    have hY0:0<Y:=by have:=HE.out.2.1.1;omega
    have hYe:Y=A*4294967296+Bn:=by have h1:=HE.out.2.2.1;have h2:=HE.out.2.2.2;have h3:=Nat.div_add_mod Y 4294967296;rw[←h1,←h2] at h3;omega
    have hAl:A<4294967296:=by have h1:=HE.out.2.1.2;clear hA0;omega
    have hBl:Bn<4294967296:=by rw[HE.out.2.2.2];exact Nat.mod_lt _ (by decide)
    have hTl:T0<4294967296:=by rw[HE2.out.2.2.1];exact Nat.mod_lt _ (by decide)
    have hVY:V1<Y:=HVY.out;have hA0':0<A:=by omega
    have hinit:(V1*4294967296+T0)/Y≤q5:=by rw[HE6.out.1];exact tc hYe hA0' hTl
    have hr5l:r5<4294967296:=by(have h1:r5=V1%A:=by have h2:=Nat.div_add_mod V1 A;rw[←HE6.out.1] at h2;have h3:=HE6.out.2.2.1;rw[HE6.out.2.1,Nat.mul_comm] at h3;omega);rw[h1];exact Nat.lt_trans (Nat.mod_lt _ hA0') hAl
    have hqr0:q5*A+r5=V1:=by rw[←HE6.out.2.1];exact HE6.out.2.2.1
    have hqmax:q5≤8589934591:=by(have h1:2147483648≤A:=by have h2:=HE.out.2.1.1;omega);apply Nat.le_of_not_lt;intro hc;have h2:8589934592*2147483648≤q5*A:=Nat.mul_le_mul hc h1;have h3:=HE.out.2.1.2;omega
    have HL6:=xQ (xP hYe (xP hBl (xP hTl (xP hVY (xP hY0 (xP hinit hqr0))))));clear hYe hTl hVY hY0 hinit hqr0 hA0';go_wp2_with fail;go_loopg[18,16] q5 (fun gk s15 s16 wr=> ∃q r:Nat,s15=.int .u64 q∧s16=.int .u64 r∧gk=q∧q≤8589934591∧r<4294967296∧Hid (q*A+r=V1∧(V1*4294967296+T0)/Y≤q)∧wr=wc);case atStart=>exact⟨q5,r5,rfl,rfl,rfl,hqmax,hr5l,⟨HL6.out.2.2.2.2.2.2,HL6.out.2.2.2.2.2.1⟩,rfl⟩
    case round=>
     clear hqmax hr5l;obtain⟨q,r,rfl,rfl,hgk,hqm,hrl,hqr,rfl⟩:=hrel;by_cases hge:4294967296≤q
     ·have hge':(4294967296:Int)≤q:=by omega
      have hq17:=sW HL6.out.2.2.2.1 HL6.out.2.2.1 hge;have hq1:1≤q:=Nat.lt_of_le_of_lt (Nat.zero_le _) hq17;obtain⟨q',hq'⟩: ∃q',q=q'+1:=⟨q-1,by omega⟩;have f4:IntKind.u64.wrap ((q:Int)-1)=(q':Int):=by rw[hq',show((q'+1:Nat):Int)-1=(q':Int) by omega];exact bd (by omega)
      have f5:IntKind.u64.wrap ((r:Int)+A)=((r+A:Nat):Int):=bd (by omega);obtain⟨r',hr'⟩: ∃r',r'=r+A:=⟨_,rfl⟩;rw[←hr'] at f5;have hinv:q'*A+r'=V1:=by have h:=hqr.out.1;rw[hq',Nat.add_mul,Nat.one_mul] at h;omega
      have hQq:(V1*4294967296+T0)/Y≤q':=by omega
      by_cases hbr:4294967296≤r'
      ·have hbr':(4294967296:Int)≤r':=by omega
       have HBR:=xQ (jU HL6.out.1 HL6.out.2.1 HL6.out.2.2.2.1 hinv hQq hbr);clear hinv hQq hbr hr' hq' hq17;go_wp2_with fail;go_meet;exact⟨q',r',rfl,rfl,HBR.out,rfl⟩
      ·have hbr': ¬((4294967296:Int)≤r'):=by omega
       have HIN:=xQ (xP hinv (xP hQq hq'));have hrl':r'<4294967296:=by omega
       clear hinv hQq hbr hr' hq' hq17;go_wp2_with fail;go_roundg q';case measure=>have:=HIN.out.2.2;omega
       case rel=>exact⟨q',r',rfl,rfl,rfl,by have:=HIN.out.2.2;omega,hrl',⟨HIN.out.1,HIN.out.2.1⟩,rfl⟩
     ·have hge':decide ((4294967296:Int)≤q)=false:=decide_eq_false (by omega);obtain⟨M,hM⟩: ∃M,M=q*Bn:=⟨_,rfl⟩;have hMl:M≤4294967295*4294967295:=by rw[hM];exact Nat.mul_le_mul (by omega) (by have:=HL6.out.2.1;omega)
      have f1:IntKind.u64.wrap ((q:Int)*Bn)=(M:Int):=by rw[show(q:Int)*Bn=(M:Int) by rw[hM];simp];exact bd (by omega)
      obtain⟨K,hK⟩: ∃K,K=4294967296*r:=⟨_,rfl⟩;have f2:IntKind.u64.wrap (4294967296*(r:Int))=(K:Int):=by rw[show 4294967296*(r:Int)=(K:Int) by omega];exact bd (by omega)
      obtain⟨S2,hS2⟩: ∃S2,S2=K+T0:=⟨_,rfl⟩;have f3:IntKind.u64.wrap ((K:Int)+T0)=(S2:Int):=by rw[show(K:Int)+T0=(S2:Int) by omega];exact bd (by have:=HL6.out.2.2.1;omega)
      by_cases hgt:S2<M
      ·have hgt':(S2:Int)<M:=by omega
       have hq17:=v8 (t:=T0) HL6.out.1 HL6.out.2.2.2.2.1 hqr.out.1 (by rw[←hM,←hK,←hS2];exact hgt);clear hM hK hS2 hMl hgt;have hq1:1≤q:=Nat.lt_of_le_of_lt (Nat.zero_le _) hq17;obtain⟨q',hq'⟩: ∃q',q=q'+1:=⟨q-1,by omega⟩;have f4:IntKind.u64.wrap ((q:Int)-1)=(q':Int):=by rw[hq',show((q'+1:Nat):Int)-1=(q':Int) by omega];exact bd (by omega)
       have f5:IntKind.u64.wrap ((r:Int)+A)=((r+A:Nat):Int):=bd (by omega);obtain⟨r',hr'⟩: ∃r',r'=r+A:=⟨_,rfl⟩;rw[←hr'] at f5;have hinv:q'*A+r'=V1:=by have h:=hqr.out.1;rw[hq',Nat.add_mul,Nat.one_mul] at h;omega
       have hQq:(V1*4294967296+T0)/Y≤q':=by omega
       by_cases hbr:4294967296≤r'
       ·have hbr':(4294967296:Int)≤r':=by omega
        have HBR:=xQ (jU HL6.out.1 HL6.out.2.1 HL6.out.2.2.2.1 hinv hQq hbr);clear hinv hQq hbr hr' hq' hq17;go_wp2_with fail;go_meet;exact⟨q',r',rfl,rfl,HBR.out,rfl⟩
       ·have hbr': ¬((4294967296:Int)≤r'):=by omega
        have HIN:=xQ (xP hinv (xP hQq hq'));have hrl':r'<4294967296:=by omega
        clear hinv hQq hbr hr' hq' hq17;go_wp2_with fail;go_roundg q';case measure=>have:=HIN.out.2.2;omega
        case rel=>exact⟨q',r',rfl,rfl,rfl,by have:=HIN.out.2.2;omega,hrl',⟨HIN.out.1,HIN.out.2.1⟩,rfl⟩
      ·have hgt': ¬((S2:Int)<M):=by omega
       have HEND:=xQ (rN (t:=T0) HL6.out.1 HL6.out.2.2.2.2.1 hqr.out.1 hqr.out.2 (by rw[←hM,←hK,←hS2];omega));clear hM hK hS2 hMl hgt;go_wp2_with fail;go_meet;exact⟨q,r,rfl,rfl,HEND.out,rfl⟩
   case rest=>
    obtain⟨q2,r2,rfl,rfl,hq2,rfl⟩:=hcut;have HQ2:=xQ hq2;clear hq2;obtain⟨W,hW⟩: ∃W,W=(V1*4294967296+T0)%Y:=⟨_,rfl⟩;have HSB2:=xQ (we HQ2.out hW HY0.out HE.out.2.1.2);have HW:=xQ hW;clear hW;have hfin:q*4294967296+q2=N/y∧W/2^s=N%y:=by obtain⟨d1,d2⟩:=wN 4294967296 Y U T1 T0 HY0.out;rw[←HQ.out.1,←HQ.out.2,←HQ2.out] at d1;rw[←HQ.out.2,←HW.out] at d2;(have hT:(U*4294967296+T1)*4294967296+T0=N*2^s:=by rw[HE2.out.1.1];have h1:=HE2.out.2.1;have h2:=HE2.out.2.2.1;clear d1 d2;omega);rw[hT,HE.out.1] at d1 d2;obtain⟨e1,e2⟩:=wQ (N:=N) (y:=y) HE2.out.2.2.2.2;exact⟨by rw[d1,e1],by rw[d2,e2]⟩
    have hqK:q<4294967296:=by rw[HQ.out.1];exact sW HE2.out.1.2.1 (by rw[HE2.out.2.1];have h:=HE2.out.2.2.2.1;omega) (Nat.le_refl _)
    have hq2K:q2<4294967296:=by rw[HQ2.out];exact sW HVY.out (by rw[HE2.out.2.2.1];exact Nat.mod_lt _ (by decide)) (Nat.le_refl _)
    have e1:IntKind.u64.wrap ((q:Int)*4294967296)=((q*4294967296:Nat):Int):=by rw[show(q:Int)*4294967296=((q*4294967296:Nat):Int) by simp];exact bd (by omega)
    have e2:IntKind.u64.wrap (((q*4294967296:Nat):Int)+(q2:Int))=((N/y:Nat):Int):=by rw[show((q*4294967296:Nat):Int)+(q2:Int)=((q*4294967296+q2:Nat):Int) by simp,hfin.1];exact bd (by rw[←hfin.1];omega)
    have e3:(W:Int)/2^s=((N%y:Nat):Int):=by rw[←hfin.2];simp
    have HX:=xQ (xP e1 (xP e2 e3));clear e1 e2 e3 hfin hqK hq2K;go_wp2_with fail;simp only[HSB2.out,HX.out.1,HX.out.2.1,HX.out.2.2];refine bodyPost_ret (v:=.tuple #[.int .u64 ((N/y:Nat):Int),.int .u64 ((N%y:Nat):Int)]) (by simp[results,Tryz.results325,go_sem]<;>rfl) rfl ?_;exact⟨rfl,0,rfl⟩
def kq(P d:Nat):Value:=if d≤P/18446744073709551616 then .tuple #[.int .u64 9223372036854775808,.int .i64 0] else .tuple #[.int .u64 (P/d:Nat),.int .i64 (if d<2*(P%d) then 1 else if 2*(P%d)=d then 0 else-1)]
theorem qQ(n k d:Nat)(w:World)(hn:n<18446744073709551616)(hk:k≤63)(hd0:0<d)(hd:d<9223372036854775808):Calls Tryz.prog 286 #[.int .u64 n,.int .u64 k,.int .u64 d] w (nc w (kq (n*2^k) d)):=by
 obtain⟨E,hE,hEi⟩: ∃E:Nat,E=2^k∧(2:Int)^k=(E:Int):=⟨_,rfl,by simp⟩;have hEl:E<18446744073709551616:=by rw[hE];exact Nat.lt_of_le_of_lt (Nat.pow_le_pow_right (by decide) hk) (by decide)
 have hEw:=bd hEl;rw[←hE];have hM:=Tryz.bits_Mul64 n E hn hEl w;obtain⟨P,hP⟩: ∃P,P=n*E:=⟨_,rfl⟩;rw[←hP] at hM ⊢;obtain⟨hi,hhi⟩: ∃h,h=P/18446744073709551616:=⟨_,rfl⟩;obtain⟨lo,hlo⟩: ∃l,l=P%18446744073709551616:=⟨_,rfl⟩;rw[←hhi,←hlo] at hM;have hPe:hi*18446744073709551616+lo=P:=by rw[hhi,hlo,Nat.mul_comm];exact Nat.div_add_mod _ _
 have hlol:lo<18446744073709551616:=by rw[hlo];exact Nat.mod_lt _ (by decide)
 obtain⟨V,hV⟩: ∃V,V=kq P d:=⟨_,rfl⟩;rw[←hV];unfold kq at hV;rw[←hhi] at hV;have HM:=xQ hM;have HF:=xQ (xP hEi hEw);have HE:=xQ (xP hPe hlol);clear hM hEi hEw hE hEl hP hhi hlo hPe hlol;by_cases hge:d≤hi
 ·rw[if_pos hge] at hV;have hge':(d:Int)≤hi:=by omega
  have HV:=xQ hV;clear hV;go_enter Tryz.func286,Tryz.ntmps286;go_wp2_with fail;simp only[HF.out.1,HF.out.2];refine HM.out.mono ?_;rintro e w1 ⟨rfl,rfl⟩;go_wp2_with fail;refine bodyPost_ret (v:=.tuple #[.int .u64 9223372036854775808,.int .i64 0]) (by simp[results,Tryz.results286,go_sem, *]<;>rfl) rfl ?_;exact⟨by rw[HV.out],0,rfl⟩
 ·rw[if_neg hge] at hV;have hge': ¬((d:Int)≤hi):=by omega
  have hdv:=fun w=>tC hi lo d w (by omega) HE.out.2 (by omega);rw[HE.out.1] at hdv;have hrl:P%d<d:=Nat.mod_lt _ hd0;obtain⟨q,hq⟩: ∃q,q=P/d:=⟨_,rfl⟩;obtain⟨r,hr⟩: ∃r,r=P%d:=⟨_,rfl⟩;rw[←hr] at hrl;rw[←hq,←hr] at hV hdv;obtain⟨g,hg⟩: ∃g,d=g+r:=⟨d-r,by omega⟩;have f1:IntKind.u64.wrap ((d:Int)-r)=(g:Int):=by rw[show(d:Int)-r=(g:Int) by omega];exact bd (by omega)
  have HD:=xQ hdv;clear hdv hq hr;have HG:=xQ (xP hg hV);clear hg hV;go_enter Tryz.func286,Tryz.ntmps286;go_wp2_with fail;simp only[HF.out.1,HF.out.2];refine HM.out.mono ?_;rintro e w1 ⟨rfl,rfl⟩;go_wp2_with fail;refine(HD.out _).mono ?_;rintro e w2 ⟨rfl,m,rfl⟩;obtain⟨hg,hV⟩:=HG.out;by_cases c1:g<r
  ·have c1':(g:Int)<r:=by omega
   rw[if_pos (by omega)] at hV;have HV2:=xQ hV;clear hV hg c1 hrl;go_wp2_with fail;refine bodyPost_ret (v:=.tuple #[.int .u64 (q:Int),.int .i64 1]) (by simp[results,Tryz.results286,go_sem, *]<;>rfl) rfl ?_;exact⟨by rw[HV2.out],m,rfl⟩
  ·have c1': ¬((g:Int)<r):=by omega
   by_cases c2:r=g
   ·have c2':((r:Int)==g)=true:=by simp[c2]
    rw[if_neg (by omega),if_pos (by omega)] at hV;have HV2:=xQ hV;clear hV hg c1 hrl c2;go_wp2_with fail;refine bodyPost_ret (v:=.tuple #[.int .u64 (q:Int),.int .i64 0]) (by simp[results,Tryz.results286,go_sem, *]<;>rfl) rfl ?_;exact⟨by rw[HV2.out],m,rfl⟩
   ·have c2':((r:Int)==g)=false:=by simp;omega
    rw[if_neg (by omega),if_neg (by omega)] at hV;have HV2:=xQ hV;clear hV hg c1 hrl c2;go_wp2_with fail;refine bodyPost_ret (v:=.tuple #[.int .u64 (q:Int),.int .i64 (-1)]) (by simp[results,Tryz.results286,go_sem, *]<;>rfl) rfl ?_;exact⟨by rw[HV2.out],m,rfl⟩
end Go.Proofs.YtodpdjehjllhdaaGreatDoor
