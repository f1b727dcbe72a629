/- Part of a proof: contracts and plain laws. -/
import Derived.Test.YtodpdjehjllhdaaGreatDoorK22
import Derived.Laws.MathBits
set_option linter.unusedVariables false
set_option linter.unusedSimpArgs false
set_option maxRecDepth 100000
set_option maxHeartbeats 20000000
namespace Go.Proofs.YtodpdjehjllhdaaGreatDoor
open Go.RowKit
theorem mT(n x:Int)(w:World)(hI:a8 n)(ht:qC w)(hm:n.tmod 10≠0)(hd17:eT n≤17)(hx0: -16≤x)(hx1:x≤ -1):Calls Tryz.prog 251 #[.int .i64 n,.int .i64 x] w (bN w (sd n x true)):=by
 have HT:=Ad ht;clear ht;have P0:=Ad (aj.new w 108 #[.int .i64 0,.int .i64 0]);have B0:=Ad (ab (ae w) (.cells #[.int .i64 0,.int .i64 0] 108));have hok:aZ n x=true:=by unfold aZ;rw[if_neg (by omega)];simp[hm,hd17];omega
 have hd:decide (-40≤x∧x≤40)=true:=decide_eq_true ⟨by omega,by omega⟩;have hn0:(n==0)=false:=by simp;intro e;subst e;exact hm rfl
 have h1:(n.tmod 10==0)=false:=by simp[hm]
 obtain⟨q,hq⟩: ∃q,q=eT n:=⟨_,rfl⟩;rw[←hq] at hd17;have h17': ¬((17:Int)<q):=by omega
 have HI:=Ad (Ac hI (Ac hok (Ac hd hq)));clear hI hok hd hq hm;go_enter Tryz.func251,Tryz.ntmps251;go_wp2_with fail;refine(ga n _ HI.out.1 (HT.out.below B0.out)).mono ?_;rintro e w1 ⟨rfl,hb1⟩;rw[←HI.out.2.2.2];have P1:=Ad (P0.out.below hb1);have B1:=Ad (ai B0.out hb1);clear hb1;go_wp2_with fail;refine(bj _ _ _ _).mono ?_;rintro e w2 ⟨rfl,hb2⟩;rw[HI.out.2.2.1];have P2:=Ad (P1.out.below hb2);have B2:=Ad (ai B1.out hb2);clear hb2;go_wp2_with fail;go_loopg[0,1] 0 (fun gk nn xx wr=>nn=.int .i64 n∧xx=.int .i64 x∧wr=w2);case atStart=>exact⟨rfl,rfl,rfl⟩
 case round=>
  obtain⟨rfl,rfl,rfl⟩:=hrel;go_wp2_with fail;go_loopg[0,1] 0 (fun gk nn xx wr=>nn=.int .i64 n∧xx=.int .i64 x∧aj wr w.heap.size 108 #[.int .i64 0,.int .i64 0]∧Below w.heap.size w wr);case atStart=>exact⟨rfl,rfl,P2.out,B2.out⟩
  case round=>
   rename_i wr2;obtain⟨rfl,rfl,hP,hbel⟩:=hrel;have hzr:w.heap.size<wr.heap.size:=hP.lt;have HP:=Ad (Ac hP hbel);clear hP hbel;have PX:=Ad (aj.new wr 108 #[.int .i64 n,.int .i64 x]);have hx': ¬(0<x):=by omega
   go_wp2_with fail;refine(fj n x _ HI.out.1 (HT.out.below (ab HP.out.2 _))).mono ?_;rintro e w3 ⟨rfl,hb3⟩;rw[HI.out.2.1];have P3:=Ad ((HP.out.1.alloc (.cells #[.int .i64 n,.int .i64 x] 108)).below hb3);have X3:=Ad (PX.out.below hb3);have B3:=Ad (ai (ab HP.out.2 _) hb3);clear hb3;have hz3:w.heap.size<w3.heap.size:=P3.out.lt;have hz4:wr.heap.size<w3.heap.size:=X3.out.lt;have n1:wr.heap.size≠w.heap.size:=by omega
   have n2:w.heap.size≠wr.heap.size:=by omega
   have f0:=P3.out.frozen 0;have f1:=P3.out.frozen 1;obtain⟨p0,p1⟩:=P3.out.c2;obtain⟨q0,q1⟩:=X3.out.c2;go_wp2_with fail;refine bodyPost_ret (v:=sd n x true) (by simp[results,sd,Tryz.results251,go_sem, *]<;>rfl) rfl ?_;exact⟨rfl,dh B3.out (Nat.le_refl _) _ _⟩
theorem ja(m x:Int)(w:World)(ht:qC w)(hok:bg m x=true):Calls Tryz.prog 211 #[.agg #[.int .i64 m,.int .i64 x]] w (bN w (nN m x)):=by
 have HT:=Ad ht;clear ht;have B0:=Ad (ab (ab (ae w) (.cells #[.int .i64 m,.int .i64 x] 104)) (.cells #[.int .i64 0,.int .i64 0] 108));have P0:=Ad ((aj.new w 104 #[.int .i64 m,.int .i64 x]).alloc (.cells #[.int .i64 0,.int .i64 0] 108));have P1:=Ad (aj.at (w:=w.alloc (.cells #[.int .i64 m,.int .i64 x] 104)) (g:=w.heap.size+1) (t:=108) (cs:=#[.int .i64 0,.int .i64 0]) (by simp));have hI:a8 m:=by rcases dF hok with⟨rfl,_⟩|⟨_,h1,h2,_⟩<;>exact⟨by omega,by omega⟩
 have hc:=dF hok;have HI:=Ad (Ac hI (Ac hok hc));unfold nN aI;by_cases hx:0≤x
 ·obtain⟨j,rfl⟩: ∃j:Nat,x=j:=⟨x.toNat,by omega⟩;have hb:=qY hok;have hw:wrap64 (m*2^j)=m*2^j:=by unfold wrap64;omega
  rw[if_pos hx,show((j:Int)).toNat=j by omega];have hj45:j≤45:=by rcases hc with h|h;(·omega);·have:=h.2.2.2.2.2.1;omega
  clear hI hok hc hb;go_enter Tryz.func211,Tryz.ntmps211;go_wp2_with fail;refine(dT m j _ HI.out.1).mono ?_;rintro e w1 ⟨rfl,hb1⟩;rw[HI.out.2.1];have Q0:=Ad (P0.out.below hb1);have Q1:=Ad (P1.out.below hb1);have B1:=Ad (ai B0.out hb1);clear hb1;have hz1:w.heap.size+1<w1.heap.size:=Q1.out.lt;obtain⟨p0,p1⟩:=Q0.out.c2;obtain⟨q0,q1⟩:=Q1.out.c2;have f0:=Q1.out.frozen 0;have f1:=Q1.out.frozen 1;go_wp2_with fail;refine bodyPost_ret (v:=.agg #[.int .i64 (m*2^j),.int .i64 0]) (by simp[results,Tryz.results211,go_sem, *]<;>rfl) rfl ?_;exact⟨rfl,dh B1.out (by omega) _ _⟩
 ·rw[if_neg hx];obtain⟨j,hj⟩: ∃j:Nat,-x=j:=⟨(-x).toNat,by omega⟩;have hn:=hc.resolve_left (fun h=>by omega);have hnear:=rT hn.2.1 hn.2.2.1 hn.2.2.2.1 (j:=j) (by omega) (by have:=hn.2.2.2.2.1;omega);rw[show(-x).toNat=j by omega];have hxj:x= -(j:Int):=by omega
  have hj16:j≤16:=by have:=hn.2.2.2.2.1;omega
  have hj1:1≤j:=by omega
  obtain⟨q,hq⟩: ∃q:Nat,q=5^j:=⟨_,rfl⟩;have hq2:m*5^j=m*(q:Int):=by rw[hq];simp
  rw[hq2];rw[←hq] at hnear;have hwq:IntKind.i64.wrap (m*(q:Int))=m*(q:Int):=by rw[IntKind.wrap_i64];have:=hnear.1.1;have:=hnear.1.2;omega
  have hwx:IntKind.i64.wrap (-x)=(j:Int):=by rw[IntKind.wrap_i64];omega
  have hx':x<0:=by omega
  have hPow: ∀w,Calls Tryz.prog 252 #[.int .i64 5,.int .i64 (j:Int)] w (bN w (.int .i64 (q:Int))):=fun w=>by rw[hq];exact wB j w (by omega)
  have HP:=Ad hPow;have hxr: -16≤x∧x≤ -1:=⟨by omega,by omega⟩;have HN:=Ad (Ac hnear hxr);clear hI hok hc hn hnear hPow hq hq2 hxj hj16 hj1 hj hx hxr;go_enter Tryz.func211,Tryz.ntmps211;go_wp2_with fail;refine(dT m x _ HI.out.1).mono ?_;rintro e w1 ⟨rfl,hb1⟩;rw[HI.out.2.1];have Q0:=Ad (P0.out.below hb1);have Q1:=Ad (P1.out.below hb1);have B1:=Ad (ai B0.out hb1);clear hb1;have hz1:w.heap.size+1<w1.heap.size:=Q1.out.lt;obtain⟨p0,p1⟩:=Q0.out.c2;obtain⟨q0,q1⟩:=Q1.out.c2;have f0:=Q1.out.frozen 0;have f1:=Q1.out.frozen 1;have hb0:w.heap.size<w1.heap.size:=by omega
  have m1:w.heap.size≠w1.heap.size:=by omega
  have m1':w1.heap.size≠w.heap.size:=by omega
  go_wp2_with fail;go_cut[3,4] from 20 to 31 (fun s3 s4 wx=> ∃gy,s3=.pointer (some ⟨gy,0,none⟩)∧s4=.bool true∧w1.heap.size≤gy∧aj wx gy 108 #[.int .i64 (m*(q:Int)),.int .i64 x]∧Below w1.heap.size w1 wx)
  case first=>
   go_region_held3(fun u=>u.cell? ⟨w.heap.size,0,none⟩=some (.int .i64 m)∧u.cell? ⟨w.heap.size,1,none⟩=some (.int .i64 x)) (go_keep) (first|(go_at_call 252;(refine(HP.out _).mono ?_;rintro e w3 ⟨rfl,hb3⟩;have HB3:=Ad (show Below w1.heap.size w1 w3 from(by first|exact ai (ae w1).drew hb3|exact ai (ab (ae w1) _).drew hb3));have i0:=(HB3.out.cell (p:=⟨w.heap.size,_,none⟩) hb0).trans p0;have i1:=(HB3.out.cell (p:=⟨w.heap.size,_,none⟩) hb0).trans p1;have HR3:=Ad hb3;obtain⟨hc3,hf3⟩:=jo hb3;have hs3:=hb3.size;(try simp at hs3);(try have hs3':w1.heap.size<w3.heap.size:=(by omega));have hz3:w1.heap.size≤w3.heap.size:=HB3.out.size;have m3:w.heap.size≠w3.heap.size:=(by omega);have m3':w3.heap.size≠w.heap.size:=(by omega);clear hb3))|(go_at_call 251;(refine(mT _ x _ HN.out.1.1 (by first|exact HT.out.below (ai B1.out HB3.out)|exact HT.out.below (ab (ai B1.out HB3.out) _)) HN.out.1.2.1 HN.out.1.2.2.1 HN.out.2.1 HN.out.2.2).mono ?_;rintro e w4 ⟨rfl,hb4⟩;unfold sd;have HB4:=Ad (show Below w1.heap.size w1 w4 from(by first|exact ai HB3.out hb4|exact ai (ab HB3.out _) hb4));have j0:=(HB4.out.cell (p:=⟨w.heap.size,_,none⟩) hb0).trans p0;have j1:=(HB4.out.cell (p:=⟨w.heap.size,_,none⟩) hb0).trans p1;have HR4:=Ad hb4;obtain⟨hc4,hf4⟩:=jo hb4;have hs4:=hb4.size;(try simp at hs4);(try have hs4':w3.heap.size<w4.heap.size:=(by omega));(try have hs4'':w1.heap.size<w4.heap.size:=(by omega));have hz4:w1.heap.size≤w4.heap.size:=HB4.out.size;have m4:w.heap.size≠w4.heap.size:=(by omega);have m4':w4.heap.size≠w.heap.size:=(by omega);clear hb4)));·go_wp2_with fail;go_meet;exact⟨w4.heap.size,rfl,rfl,hz4,aj.at rfl,ab HB4.out _⟩
   ·go_wp2_with fail;go_meet;refine⟨w3.heap.size,rfl,rfl,hz3,((((aj.new w3 _ _).below HR4.out).cT 0 _).cT 1 _),(HB4.out.setCell (p:=⟨w3.heap.size,0,none⟩) hz3 _).setCell (p:=⟨w3.heap.size,1,none⟩) hz3 _⟩
   ·go_wp2_with fail;go_meet;refine⟨w1.heap.size,rfl,rfl,Nat.le_refl _,(((((aj.new w1 _ _).drew.below HR3.out).below HR4.out).cT 0 _).cT 1 _),dh HB4.out (Nat.le_refl _) _ _⟩
  case rest=>
   obtain⟨gy,rfl,rfl,hgy,hY,hbx⟩:=hcut;obtain⟨y0,y1⟩:=hY.c2;have R1:=Q1.out.below hbx;have hz2:w.heap.size+1<wc.heap.size:=R1.lt;have g0:=R1.frozen 0;have g1:=R1.frozen 1;obtain⟨r0,r1⟩:=R1.c2;have n1:gy≠w.heap.size+1:=by omega
   have n2:w.heap.size+1≠gy:=by omega
   have HX:=Ad (ai B1.out hbx);clear hbx hY p0 p1 q0 q1 f0 f1;go_wp2_with fail;refine bodyPost_ret (v:=.agg #[.int .i64 (m*(q:Int)),.int .i64 x]) (by simp[results,Tryz.results211,go_sem, *]<;>rfl) rfl ?_;exact⟨rfl,dh HX.out (by omega) _ _⟩
section
section
variable {y a b u t q r : Nat}
theorem uy(hy:y=a*4294967296+b)(ha:0<a)(ht:t<4294967296):(u*4294967296+t)/y≤u/a:=by
 have hy0:0<y:=by omega
 rw[Nat.le_div_iff_mul_le ha];have h1:(u*4294967296+t)/y*y≤u*4294967296+t:=Nat.div_mul_le_self _ _;generalize(u*4294967296+t)/y=Q at h1 ⊢;rw[hy,Nat.mul_add,←Nat.mul_assoc] at h1;generalize Q*a=z at h1 ⊢;omega
theorem uE(hu:u<y)(ht:t<4294967296)(hq:4294967296≤q):(u*4294967296+t)/y<q:=by
 have hy0:0<y:=by omega
 rw[Nat.div_lt_iff_lt_mul hy0];have h1:4294967296*y≤q*y:=Nat.mul_le_mul_right _ hq;omega
theorem yE(hy:y=a*4294967296+b)(hy0:0<y)(hr:q*a+r=u)(h:4294967296*r+t<q*b):(u*4294967296+t)/y<q:=by
 rw[Nat.div_lt_iff_lt_mul hy0,hy,Nat.mul_add,←Nat.mul_assoc];generalize q*a=z at hr ⊢;generalize q*b=v at h ⊢;omega
theorem tv(hy:y=a*4294967296+b)(hy0:0<y)(hr:q*a+r=u)(hQ:(u*4294967296+t)/y≤q)(h:q*b≤4294967296*r+t):q=(u*4294967296+t)/y:=by
 apply Nat.le_antisymm _ hQ;rw[Nat.le_div_iff_mul_le hy0,hy,Nat.mul_add,←Nat.mul_assoc];generalize q*a=z at hr ⊢;generalize q*b=v at h ⊢;omega
theorem lx(hy:y=a*4294967296+b)(hb:b<4294967296)(hu:u<y)(hr:q*a+r=u)(hQ:(u*4294967296+t)/y≤q)(h:4294967296≤r):q=(u*4294967296+t)/y:=by
 have hq:q<4294967296:=by apply Nat.lt_of_not_le;intro hc;have h1:4294967296*a≤q*a:=Nat.mul_le_mul_right _ hc;omega
 have h2:q*b≤4294967295*4294967295:=Nat.mul_le_mul (by omega) (by omega);exact tv hy (by omega) hr hQ (by omega)
end
theorem yM(K y u t1 t0:Nat)(hy0:0<y):((u*K+t1)/y)*K+(((u*K+t1)%y)*K+t0)/y=((u*K+t1)*K+t0)/y∧(((u*K+t1)%y)*K+t0)%y=((u*K+t1)*K+t0)%y:=by
 have h1:=Nat.div_add_mod (u*K+t1) y;generalize(u*K+t1)/y=q1 at h1 ⊢;generalize(u*K+t1)%y=r1 at h1 ⊢;have e:(u*K+t1)*K+t0=(r1*K+t0)+(q1*K)*y:=by rw[←h1,Nat.add_mul,Nat.mul_right_comm q1 K y,Nat.mul_comm q1 y];omega
 rw[e,Nat.add_mul_div_right _ _ hy0,Nat.add_mul_mod_self_right];exact⟨by omega,rfl⟩
end
theorem zF{hi lo y C S B:Nat}(hCS:C*S=B)(hS:0<S)(hC:0<C)(hlo:lo<B)(hh:hi<y):(hi*B+lo)*S=(hi*S+lo/C)*B+lo*S%B∧hi*S+lo/C<y*S∧lo/C<S:=by
 have h1:lo*S/B=lo/C:=by rw[←hCS,Nat.mul_div_mul_right _ _ hS]
 have h2:=Nat.div_add_mod (lo*S) B;rw[h1] at h2;have h3:lo/C<S:=by rw[Nat.div_lt_iff_lt_mul hC,Nat.mul_comm,hCS];exact hlo
 have h4:(hi+1)*S≤y*S:=Nat.mul_le_mul_right _ hh;rw[Nat.add_mul,Nat.one_mul] at h4;refine⟨?_,by omega,h3⟩;rw[Nat.add_mul,Nat.add_mul,Nat.add_assoc,Nat.mul_comm (lo/C) B,h2,Nat.mul_right_comm]
theorem yQ{N y S:Nat}(hS:0<S):N*S/(y*S)=N/y∧N*S%(y*S)/S=N%y:=by
 refine⟨Nat.mul_div_mul_right _ _ hS,?_⟩;rw[Nat.mul_mod_mul_right,Nat.mul_div_cancel _ hS]
theorem bm{a:Nat}(h:a<18446744073709551616):IntKind.u64.wrap (a:Int)=(a:Int):=by
 rw[IntKind.wrap_u64];omega
theorem yt{a:Nat}(h:a<18446744073709551616):(BitVec.ofInt 64 (a:Int)).toNat=a:=by
 rw[BitVec.ofInt_natCast,BitVec.toNat_ofNat];exact Nat.mod_eq_of_lt h
theorem yC{a:Nat}(h:a<18446744073709551616):bits .and .u64 (a:Int) 4294967295=((a%4294967296:Nat):Int):=by
 have h3:bits .and .u64 (a:Int) ((4294967295:Nat):Int)=IntKind.u64.wrap ((BitVec.ofInt 64 (a:Int) &&& BitVec.ofInt 64 ((4294967295:Nat):Int)).toNat:Int):=rfl;show bits .and .u64 (a:Int) ((4294967295:Nat):Int)=_;rw[h3,BitVec.toNat_and,yt h,yt (by decide),Nat.and_two_pow_sub_one_eq_mod a 32];exact bm (by have:=Nat.mod_lt a (show 0<4294967296 by decide);omega)
theorem zX{a b s:Nat}(ha:a*2^s<18446744073709551616)(hb:b<2^s)(hs:s≤63):bits .or .u64 ((a*2^s:Nat):Int) (b:Int)=((a*2^s+b:Nat):Int):=by
 have hs2:2^s≤2^63:=Nat.pow_le_pow_right (by decide) hs;have hb2:b<18446744073709551616:=by omega
 have h3:bits .or .u64 ((a*2^s:Nat):Int) (b:Int)=IntKind.u64.wrap ((BitVec.ofInt 64 ((a*2^s:Nat):Int) ||| BitVec.ofInt 64 (b:Int)).toNat:Int):=rfl;have h4:a*2^s ||| b=a*2^s+b:=by rw[Nat.mul_comm a];exact(Nat.two_pow_add_eq_or_of_lt hb a).symm
 rw[h3,BitVec.toNat_or,yt ha,yt hb2,h4];apply bm;have hle:a*2^s+b<(a+1)*2^s:=by rw[Nat.add_mul];omega
 have hd:2^s ∣ 18446744073709551616:=by refine⟨2^(64-s),?_⟩;rw[←Nat.pow_add,show s+(64-s)=64 by omega]
 obtain⟨c,hc⟩:=hd;have hac:a<c:=by apply Nat.lt_of_mul_lt_mul_right (a:=2^s);rw[Nat.mul_comm c,←hc];exact ha
 have:(a+1)*2^s≤c*2^s:=Nat.mul_le_mul_right _ hac;rw[Nat.mul_comm c,←hc] at this;omega
theorem yg{y:Nat}(h0:0<y)(h1:y<18446744073709551616): ∃s:Nat,s≤63∧(64-(Lib.bitLen y:Int))=(s:Int)∧9223372036854775808≤y*2^s∧y*2^s<18446744073709551616:=by
 obtain⟨h2,h3,h4⟩:=Lib.bitLenAux_bounds 64 y h1 (by omega);have hb:Lib.bitLen y=Lib.bitLenAux 64 y:=rfl;have h5:Lib.bitLenAux 64 y≤64:=by apply Nat.le_of_not_lt;intro hc;have:=Nat.pow_le_pow_right (show 0<2 by decide) (show 64≤Lib.bitLenAux 64 y-1 by omega);omega
 refine⟨64-Lib.bitLenAux 64 y,by omega,by rw[hb];omega,?_,?_⟩
 ·have h6:2^(Lib.bitLenAux 64 y-1)*2^(64-Lib.bitLenAux 64 y)=9223372036854775808:=by rw[←Nat.pow_add,show Lib.bitLenAux 64 y-1+(64-Lib.bitLenAux 64 y)=63 by omega]
  rw[←h6];exact Nat.mul_le_mul_right _ h3
 ·have h6:2^(Lib.bitLenAux 64 y)*2^(64-Lib.bitLenAux 64 y)=18446744073709551616:=by rw[←Nat.pow_add,show Lib.bitLenAux 64 y+(64-Lib.bitLenAux 64 y)=64 by omega]
  rw[←h6];exact Nat.mul_lt_mul_of_pos_right h4 (Nat.pow_pos (by decide))
theorem yI{U T q Y V:Nat}(hq:q=(U*4294967296+T)/Y)(hV:V=(U*4294967296+T)%Y)(hY:0<Y)(hY2:Y<18446744073709551616):IntKind.u64.wrap (IntKind.u64.wrap (IntKind.u64.wrap ((U:Int)*4294967296)+(T:Int))-IntKind.u64.wrap ((q:Int)*(Y:Int)))=(V:Int):=by
 have h:=Nat.div_add_mod (U*4294967296+T) Y;have hl:=Nat.mod_lt (U*4294967296+T) hY;rw[←hq,←hV] at h;rw[←hV] at hl;obtain⟨C,hC⟩: ∃C,C=Y*q:=⟨_,rfl⟩;rw[←hC] at h;have hCi:(q:Int)*(Y:Int)=(C:Int):=by rw[hC,Nat.mul_comm];simp
 rw[hCi,IntKind.wrap_u64,IntKind.wrap_u64,IntKind.wrap_u64,IntKind.wrap_u64];clear hCi hC hq hV;omega
theorem vE(hi lo y:Nat)(w:World)(hy:y<18446744073709551616)(hlo:lo<18446744073709551616)(hh:hi<y):Calls Tryz.prog 325 #[.int .u64 hi,.int .u64 lo,.int .u64 y] w (fV w (.tuple #[.int .u64 (((hi*18446744073709551616+lo)/y:Nat):Int),.int .u64 (((hi*18446744073709551616+lo)%y:Nat):Int)])):=by
 obtain⟨N,hN⟩: ∃N,N=hi*18446744073709551616+lo:=⟨_,rfl⟩;rw[←hN];have hyb:((y:Int)==0)=false:=by simp;omega
 have hle: ¬((y:Int)≤hi):=by omega
 by_cases h0:hi=0
 ·subst h0;have hNl:N=lo:=by omega
  subst hNl;have hd1:(N:Int)/y=((N/y:Nat):Int):=rfl;have hd2:(N:Int)%y=((N%y:Nat):Int):=rfl;have hd3:(N:Int).tdiv y=((N/y:Nat):Int):=by rw[Int.tdiv_eq_ediv_of_nonneg (by omega)];rfl
  have hd4:(N:Int).tmod y=((N%y:Nat):Int):=by rw[Int.tmod_eq_emod_of_nonneg (by omega)];rfl
  have hyp:(0:Int)<y:=by omega
  obtain⟨Q,hQ⟩: ∃Q,Q=N/y:=⟨_,rfl⟩;obtain⟨R,hR⟩: ∃R,R=N%y:=⟨_,rfl⟩;rw[←hQ] at hd1 hd3 ⊢;rw[←hR] at hd2 hd4 ⊢;have hwQ:=bm (show Q<18446744073709551616 by rw[hQ];exact Nat.lt_of_le_of_lt (Nat.div_le_self _ _) hlo);have hwR:=bm (show R<18446744073709551616 by rw[hR];exact Nat.lt_of_le_of_lt (Nat.mod_le _ _) hlo);clear hQ hR hN;go_enter Tryz.func325,Tryz.ntmps325;go_wp2_with fail;go_quiet(fail);go_wp2_with fail;refine bodyPost_ret (v:=.tuple #[.int .u64 (Q:Int),.int .u64 (R:Int)]) (by simp[results,Tryz.results325,go_sem, *]<;>rfl) rfl ?_;exact⟨rfl,_,rfl⟩
 ·have hib:((hi:Int)==0)=false:=by simp[h0]
  obtain⟨s,hs63,hs,hn1,hn2⟩:=yg (show 0<y by omega) hy;have hLZ:=Tryz.bits_LeadingZeros64 (y:Int) w (by omega) (by omega);rw[Int.toNat_natCast,hs] at hLZ;have HL:=Ad hLZ;clear hLZ hs;have HY:=Ad (Ac hn1 hn2);clear hn1 hn2;go_enter Tryz.func325,Tryz.ntmps325;go_wp2_with fail;refine HL.out.mono ?_;rintro e w1 ⟨rfl,rfl⟩;obtain⟨Y,hY,hYi⟩: ∃Y:Nat,Y=y*2^s∧(y:Int)*2^s=(Y:Int):=⟨_,rfl,by simp⟩;have hYl:9223372036854775808≤Y∧Y<18446744073709551616:=by rw[hY];exact HY.out
  have hYw:=bm hYl.2;obtain⟨A,hA,hAi⟩: ∃A:Nat,A=Y/4294967296∧(Y:Int)/4294967296=(A:Int):=⟨_,rfl,by simp⟩;have hBi:=yC hYl.2;obtain⟨Bn,hB⟩: ∃B,B=Y%4294967296:=⟨_,rfl⟩;rw[←hB] at hBi;have HF:=Ad (Ac hYi (Ac hYw (Ac hAi hBi)));have HE:=Ad (Ac hY (Ac hYl (Ac hA hB)));have hS0:0<2^s:=Nat.pow_pos (by decide);have hCS:2^(64-s)*2^s=18446744073709551616:=by rw[←Nat.pow_add,show 64-s+s=64 by omega]
  have hin:=zF hCS hS0 (Nat.pow_pos (by decide)) hlo hh;rw[←hN,←hY] at hin;have hiS:hi*2^s<18446744073709551616:=by have h1:hi*2^s≤y*2^s:=Nat.mul_le_mul_right _ (Nat.le_of_lt hh);rw[←hY] at h1;exact Nat.lt_of_le_of_lt h1 hYl.2
  obtain⟨Z,hZ,hZi⟩: ∃Z:Nat,Z=hi*2^s∧(hi:Int)*2^s=(Z:Int):=⟨_,rfl,by simp⟩;obtain⟨X,hX,hXi⟩: ∃X:Nat,X=lo/2^(64-s)∧(lo:Int)/2^(64-s)=(X:Int):=⟨_,rfl,by simp⟩;rw[←hZ] at hiS hin;rw[←hX] at hin;have hZw:=bm hiS;obtain⟨U,hU⟩: ∃U:Nat,U=Z+X:=⟨_,rfl⟩;have hor:bits .or .u64 (Z:Int) (X:Int)=(U:Int):=by rw[hU,hZ];exact zX (by rw[←hZ];exact hiS) hin.2.2 hs63
  obtain⟨T10,hT10⟩: ∃T:Nat,T=lo*2^s%18446744073709551616:=⟨_,rfl⟩;have hT10i:IntKind.u64.wrap ((lo:Int)*2^s)=(T10:Int):=by rw[IntKind.wrap_u64,hT10];simp
  have hT10l:T10<18446744073709551616:=by rw[hT10];exact Nat.mod_lt _ (by decide)
  obtain⟨T1,hT1,hT1i⟩: ∃T1:Nat,T1=T10/4294967296∧(T10:Int)/4294967296=(T1:Int):=⟨_,rfl,by simp⟩;have hT0i:=yC hT10l;obtain⟨T0,hT0⟩: ∃T,T=T10%4294967296:=⟨_,rfl⟩;rw[←hT0] at hT0i;rw[←hT10,←hU] at hin;have HF2:=Ad (Ac hZi (Ac hZw (Ac hXi (Ac hor (Ac hT10i (Ac hT1i hT0i))))));have HE2:=Ad (Ac hin (Ac hT1 (Ac hT0 (Ac hT10l hS0))));clear hYi hYw hAi hBi hY hYl hA hB hN hS0 hCS hin hiS hZ hZi hX hXi hZw hU hor hT10 hT10i hT10l hT1 hT1i hT0 hT0i;go_upto_region 9 with fail;simp only[HF.out.1,HF.out.2.1];go_upto_region 10 with fail;simp only[HF.out.2.2.1];go_upto_region 11 with fail;simp only[HF.out.2.2.2];go_upto_region 12 with fail;simp only[HF2.out.1,HF2.out.2.1,HF2.out.2.2.1,HF2.out.2.2.2.1];go_upto_region 13 with fail;simp only[HF2.out.2.2.2.2.1];go_upto_region 14 with fail;simp only[HF2.out.2.2.2.2.2.1];go_upto_region 15 with fail;simp only[HF2.out.2.2.2.2.2.2];have hA0:(0:Int)<A:=by have h:=HE.out.2.2.1;have h2:=HE.out.2.1.1;omega
  have hq0:=HE.out.2.2.1;obtain⟨q0,hq0',hq0i⟩: ∃q0:Nat,q0=U/A∧(U:Int)/A=(q0:Int):=⟨_,rfl,rfl⟩;have hUl:U<18446744073709551616:=Nat.lt_trans HE2.out.1.2.1 HE.out.2.1.2;have hq0w:=bm (Nat.lt_of_le_of_lt (Nat.div_le_self U A) hUl);rw[←hq0'] at hq0w;have hqA:q0*A≤U:=by rw[hq0'];exact Nat.div_mul_le_self U A
  obtain⟨M0,hM0,hM0i⟩: ∃M:Nat,M=q0*A∧(q0:Int)*A=(M:Int):=⟨_,rfl,by simp⟩;have hM0w:=bm (show M0<18446744073709551616 by rw[hM0];exact Nat.lt_of_le_of_lt hqA hUl);obtain⟨r0,hr0,hr0i⟩: ∃r:Nat,M0+r=U∧(U:Int)-M0=(r:Int):=⟨U-M0,by omega,by omega⟩;have hr0w:=bm (show r0<18446744073709551616 by omega);have HF3:=Ad (Ac hq0i (Ac hq0w (Ac hM0i (Ac hM0w (Ac hr0i hr0w)))));have HE3:=Ad (Ac hq0' (Ac hM0 (Ac hr0 hUl)));clear hq0 hq0' hq0i hq0w hqA hM0 hM0i hM0w hr0 hr0i hr0w hUl;go_upto_region 16 with fail;simp only[HF3.out.1,HF3.out.2.1];go_upto_block 0 with fail;simp only[HF3.out.2.2.1,HF3.out.2.2.2.1,HF3.out.2.2.2.2.1,HF3.out.2.2.2.2.2];go_cut[15,16] (fun s15 s16 wx=> ∃q r:Nat,s15=.int .u64 q∧s16=.int .u64 r∧q=(U*4294967296+T1)/Y∧wx=w1)
  case first=>
   have hY0:0<Y:=by have:=HE.out.2.1.1;omega
   have hYe:Y=A*4294967296+Bn:=by have h1:=HE.out.2.2.1;have h2:=HE.out.2.2.2;have h3:=Nat.div_add_mod Y 4294967296;rw[←h1,←h2] at h3;omega
   have hAl:A<4294967296:=by have h1:=HE.out.2.1.2;clear hA0;omega
   have hBl:Bn<4294967296:=by rw[HE.out.2.2.2];exact Nat.mod_lt _ (by decide)
   have hTl:T1<4294967296:=by rw[HE2.out.2.1];have h:=HE2.out.2.2.2.1;omega
   have hUY:U<Y:=HE2.out.1.2.1;have hA0':0<A:=by omega
   have hinit:(U*4294967296+T1)/Y≤q0:=by rw[HE3.out.1];exact uy hYe hA0' hTl
   have hr0l:r0<4294967296:=by(have h1:r0=U%A:=by have h2:=Nat.div_add_mod U A;rw[←HE3.out.1] at h2;have h3:=HE3.out.2.2.1;rw[HE3.out.2.1,Nat.mul_comm] at h3;omega);rw[h1];exact Nat.lt_trans (Nat.mod_lt _ hA0') hAl
   have hqr0:q0*A+r0=U:=by rw[←HE3.out.2.1];exact HE3.out.2.2.1
   have hqmax:q0≤8589934591:=by(have h1:2147483648≤A:=by have h2:=HE.out.2.1.1;omega);apply Nat.le_of_not_lt;intro hc;have h2:8589934592*2147483648≤q0*A:=Nat.mul_le_mul hc h1;have h3:=HE.out.2.1.2;omega
   have HL2:=Ad (Ac hYe (Ac hBl (Ac hTl (Ac hUY (Ac hY0 (Ac hinit hqr0))))));clear hYe hTl hUY hY0 hinit hqr0 hA0';go_wp2_with fail;go_loopg[15,16] q0 (fun gk s15 s16 wr=> ∃q r:Nat,s15=.int .u64 q∧s16=.int .u64 r∧gk=q∧q≤8589934591∧r<4294967296∧Hid (q*A+r=U∧(U*4294967296+T1)/Y≤q)∧wr=w1);case atStart=>exact⟨q0,r0,rfl,rfl,rfl,hqmax,hr0l,⟨HL2.out.2.2.2.2.2.2,HL2.out.2.2.2.2.2.1⟩,rfl⟩
   case round=>
    clear hqmax hr0l;obtain⟨q,r,rfl,rfl,hgk,hqm,hrl,hqr,rfl⟩:=hrel;by_cases hge:4294967296≤q
    ·have hge':(4294967296:Int)≤q:=by omega
     have hq17:=uE HL2.out.2.2.2.1 HL2.out.2.2.1 hge;have hq1:1≤q:=Nat.lt_of_le_of_lt (Nat.zero_le _) hq17;obtain⟨q',hq'⟩: ∃q',q=q'+1:=⟨q-1,by omega⟩;have f4:IntKind.u64.wrap ((q:Int)-1)=(q':Int):=by rw[hq',show((q'+1:Nat):Int)-1=(q':Int) by omega];exact bm (by omega)
     have f5:IntKind.u64.wrap ((r:Int)+A)=((r+A:Nat):Int):=bm (by omega);obtain⟨r',hr'⟩: ∃r',r'=r+A:=⟨_,rfl⟩;rw[←hr'] at f5;have hinv:q'*A+r'=U:=by have h:=hqr.out.1;rw[hq',Nat.add_mul,Nat.one_mul] at h;omega
     have hQq:(U*4294967296+T1)/Y≤q':=by omega
     by_cases hbr:4294967296≤r'
     ·have hbr':(4294967296:Int)≤r':=by omega
      have HBR:=Ad (lx HL2.out.1 HL2.out.2.1 HL2.out.2.2.2.1 hinv hQq hbr);clear hinv hQq hbr hr' hq' hq17;go_wp2_with fail;go_meet;exact⟨q',r',rfl,rfl,HBR.out,rfl⟩
     ·have hbr': ¬((4294967296:Int)≤r'):=by omega
      have HIN:=Ad (Ac hinv (Ac hQq hq'));have hrl':r'<4294967296:=by omega
      clear hinv hQq hbr hr' hq' hq17;go_wp2_with fail;go_roundg q';case measure=>have:=HIN.out.2.2;omega
      case rel=>exact⟨q',r',rfl,rfl,rfl,by have:=HIN.out.2.2;omega,hrl',⟨HIN.out.1,HIN.out.2.1⟩,rfl⟩
    ·have hge':decide ((4294967296:Int)≤q)=false:=decide_eq_false (by omega);obtain⟨M,hM⟩: ∃M,M=q*Bn:=⟨_,rfl⟩;have hMl:M≤4294967295*4294967295:=by rw[hM];exact Nat.mul_le_mul (by omega) (by have:=HL2.out.2.1;omega)
     have f1:IntKind.u64.wrap ((q:Int)*Bn)=(M:Int):=by rw[show(q:Int)*Bn=(M:Int) by rw[hM];simp];exact bm (by omega)
     obtain⟨K,hK⟩: ∃K,K=4294967296*r:=⟨_,rfl⟩;have f2:IntKind.u64.wrap (4294967296*(r:Int))=(K:Int):=by rw[show 4294967296*(r:Int)=(K:Int) by omega];exact bm (by omega)
     obtain⟨S2,hS2⟩: ∃S2,S2=K+T1:=⟨_,rfl⟩;have f3:IntKind.u64.wrap ((K:Int)+T1)=(S2:Int):=by rw[show(K:Int)+T1=(S2:Int) by omega];exact bm (by have:=HL2.out.2.2.1;omega)
     by_cases hgt:S2<M
     ·have hgt':(S2:Int)<M:=by omega
      have hq17:=yE (t:=T1) HL2.out.1 HL2.out.2.2.2.2.1 hqr.out.1 (by rw[←hM,←hK,←hS2];exact hgt);clear hM hK hS2 hMl hgt;have hq1:1≤q:=Nat.lt_of_le_of_lt (Nat.zero_le _) hq17;obtain⟨q',hq'⟩: ∃q',q=q'+1:=⟨q-1,by omega⟩;have f4:IntKind.u64.wrap ((q:Int)-1)=(q':Int):=by rw[hq',show((q'+1:Nat):Int)-1=(q':Int) by omega];exact bm (by omega)
      have f5:IntKind.u64.wrap ((r:Int)+A)=((r+A:Nat):Int):=bm (by omega);obtain⟨r',hr'⟩: ∃r',r'=r+A:=⟨_,rfl⟩;rw[←hr'] at f5;have hinv:q'*A+r'=U:=by have h:=hqr.out.1;rw[hq',Nat.add_mul,Nat.one_mul] at h;omega
      have hQq:(U*4294967296+T1)/Y≤q':=by omega
      by_cases hbr:4294967296≤r'
      ·have hbr':(4294967296:Int)≤r':=by omega
       have HBR:=Ad (lx HL2.out.1 HL2.out.2.1 HL2.out.2.2.2.1 hinv hQq hbr);clear hinv hQq hbr hr' hq' hq17;go_wp2_with fail;go_meet;exact⟨q',r',rfl,rfl,HBR.out,rfl⟩
      ·have hbr': ¬((4294967296:Int)≤r'):=by omega
       have HIN:=Ad (Ac hinv (Ac hQq hq'));have hrl':r'<4294967296:=by omega
       clear hinv hQq hbr hr' hq' hq17;go_wp2_with fail;go_roundg q';case measure=>have:=HIN.out.2.2;omega
       case rel=>exact⟨q',r',rfl,rfl,rfl,by have:=HIN.out.2.2;omega,hrl',⟨HIN.out.1,HIN.out.2.1⟩,rfl⟩
     ·have hgt': ¬((S2:Int)<M):=by omega
      have HEND:=Ad (tv (t:=T1) HL2.out.1 HL2.out.2.2.2.2.1 hqr.out.1 hqr.out.2 (by rw[←hM,←hK,←hS2];omega));clear hM hK hS2 hMl hgt;go_wp2_with fail;go_meet;exact⟨q,r,rfl,rfl,HEND.out,rfl⟩
  case rest=>
   obtain⟨q,r,rfl,rfl,hq,rfl⟩:=hcut;obtain⟨V1,hV1⟩: ∃V1,V1=(U*4294967296+T1)%Y:=⟨_,rfl⟩;have HQ:=Ad (Ac hq hV1);clear hq hV1;have HY0:=Ad (show 0<Y by have:=HE.out.2.1.1;omega);have HVY:=Ad (show V1<Y by rw[HQ.out.2];exact Nat.mod_lt _ HY0.out);have HSB:=Ad (yI HQ.out.1 HQ.out.2 HY0.out HE.out.2.1.2);go_upto_region 22 with fail;simp only[HSB.out];obtain⟨q5,hq5x,hq5i⟩: ∃q5:Nat,q5=V1/A∧(V1:Int)/A=(q5:Int):=⟨_,rfl,rfl⟩;have hVl:V1<18446744073709551616:=Nat.lt_trans HVY.out HE.out.2.1.2;have hq5w:=bm (Nat.lt_of_le_of_lt (Nat.div_le_self V1 A) hVl);rw[←hq5x] at hq5w;have hqA5:q5*A≤V1:=by rw[hq5x];exact Nat.div_mul_le_self V1 A
   obtain⟨M5,hM5,hM5i⟩: ∃M:Nat,M=q5*A∧(q5:Int)*A=(M:Int):=⟨_,rfl,by simp⟩;have hM5w:=bm (show M5<18446744073709551616 by rw[hM5];exact Nat.lt_of_le_of_lt hqA5 hVl);obtain⟨r5,hr5,hr5i⟩: ∃r:Nat,M5+r=V1∧(V1:Int)-M5=(r:Int):=⟨V1-M5,by omega,by omega⟩;have hr5w:=bm (show r5<18446744073709551616 by omega);have HF6:=Ad (Ac hq5i (Ac hq5w (Ac hM5i (Ac hM5w (Ac hr5i hr5w)))));have HE6:=Ad (Ac hq5x (Ac hM5 (Ac hr5 hVl)));clear hq5x hq5i hq5w hqA5 hM5 hM5i hM5w hr5 hr5i hr5w hVl;go_upto_region 23 with fail;simp only[HF6.out.1,HF6.out.2.1];go_upto_block 2 with fail;simp only[HF6.out.2.2.1,HF6.out.2.2.2.1,HF6.out.2.2.2.2.1,HF6.out.2.2.2.2.2];go_cut[18,16] (fun s15 s16 wx=> ∃q r:Nat,s15=.int .u64 q∧s16=.int .u64 r∧q=(V1*4294967296+T0)/Y∧wx=wc)
   case first=>
    have hY0:0<Y:=by have:=HE.out.2.1.1;omega
    have hYe:Y=A*4294967296+Bn:=by have h1:=HE.out.2.2.1;have h2:=HE.out.2.2.2;have h3:=Nat.div_add_mod Y 4294967296;rw[←h1,←h2] at h3;omega
    have hAl:A<4294967296:=by have h1:=HE.out.2.1.2;clear hA0;omega
    have hBl:Bn<4294967296:=by rw[HE.out.2.2.2];exact Nat.mod_lt _ (by decide)
    have hTl:T0<4294967296:=by rw[HE2.out.2.2.1];exact Nat.mod_lt _ (by decide)
    have hVY:V1<Y:=HVY.out;have hA0':0<A:=by omega
    have hinit:(V1*4294967296+T0)/Y≤q5:=by rw[HE6.out.1];exact uy hYe hA0' hTl
    have hr5l:r5<4294967296:=by(have h1:r5=V1%A:=by have h2:=Nat.div_add_mod V1 A;rw[←HE6.out.1] at h2;have h3:=HE6.out.2.2.1;rw[HE6.out.2.1,Nat.mul_comm] at h3;omega);rw[h1];exact Nat.lt_trans (Nat.mod_lt _ hA0') hAl
    have hqr0:q5*A+r5=V1:=by rw[←HE6.out.2.1];exact HE6.out.2.2.1
    have hqmax:q5≤8589934591:=by(have h1:2147483648≤A:=by have h2:=HE.out.2.1.1;omega);apply Nat.le_of_not_lt;intro hc;have h2:8589934592*2147483648≤q5*A:=Nat.mul_le_mul hc h1;have h3:=HE.out.2.1.2;omega
    have HL6:=Ad (Ac hYe (Ac hBl (Ac hTl (Ac hVY (Ac hY0 (Ac hinit hqr0))))));clear hYe hTl hVY hY0 hinit hqr0 hA0';go_wp2_with fail;go_loopg[18,16] q5 (fun gk s15 s16 wr=> ∃q r:Nat,s15=.int .u64 q∧s16=.int .u64 r∧gk=q∧q≤8589934591∧r<4294967296∧Hid (q*A+r=V1∧(V1*4294967296+T0)/Y≤q)∧wr=wc);case atStart=>exact⟨q5,r5,rfl,rfl,rfl,hqmax,hr5l,⟨HL6.out.2.2.2.2.2.2,HL6.out.2.2.2.2.2.1⟩,rfl⟩
    case round=>
     clear hqmax hr5l;obtain⟨q,r,rfl,rfl,hgk,hqm,hrl,hqr,rfl⟩:=hrel;by_cases hge:4294967296≤q
     ·have hge':(4294967296:Int)≤q:=by omega
      have hq17:=uE HL6.out.2.2.2.1 HL6.out.2.2.1 hge;have hq1:1≤q:=Nat.lt_of_le_of_lt (Nat.zero_le _) hq17;obtain⟨q',hq'⟩: ∃q',q=q'+1:=⟨q-1,by omega⟩;have f4:IntKind.u64.wrap ((q:Int)-1)=(q':Int):=by rw[hq',show((q'+1:Nat):Int)-1=(q':Int) by omega];exact bm (by omega)
      have f5:IntKind.u64.wrap ((r:Int)+A)=((r+A:Nat):Int):=bm (by omega);obtain⟨r',hr'⟩: ∃r',r'=r+A:=⟨_,rfl⟩;rw[←hr'] at f5;have hinv:q'*A+r'=V1:=by have h:=hqr.out.1;rw[hq',Nat.add_mul,Nat.one_mul] at h;omega
      have hQq:(V1*4294967296+T0)/Y≤q':=by omega
      by_cases hbr:4294967296≤r'
      ·have hbr':(4294967296:Int)≤r':=by omega
       have HBR:=Ad (lx HL6.out.1 HL6.out.2.1 HL6.out.2.2.2.1 hinv hQq hbr);clear hinv hQq hbr hr' hq' hq17;go_wp2_with fail;go_meet;exact⟨q',r',rfl,rfl,HBR.out,rfl⟩
      ·have hbr': ¬((4294967296:Int)≤r'):=by omega
       have HIN:=Ad (Ac hinv (Ac hQq hq'));have hrl':r'<4294967296:=by omega
       clear hinv hQq hbr hr' hq' hq17;go_wp2_with fail;go_roundg q';case measure=>have:=HIN.out.2.2;omega
       case rel=>exact⟨q',r',rfl,rfl,rfl,by have:=HIN.out.2.2;omega,hrl',⟨HIN.out.1,HIN.out.2.1⟩,rfl⟩
     ·have hge':decide ((4294967296:Int)≤q)=false:=decide_eq_false (by omega);obtain⟨M,hM⟩: ∃M,M=q*Bn:=⟨_,rfl⟩;have hMl:M≤4294967295*4294967295:=by rw[hM];exact Nat.mul_le_mul (by omega) (by have:=HL6.out.2.1;omega)
      have f1:IntKind.u64.wrap ((q:Int)*Bn)=(M:Int):=by rw[show(q:Int)*Bn=(M:Int) by rw[hM];simp];exact bm (by omega)
      obtain⟨K,hK⟩: ∃K,K=4294967296*r:=⟨_,rfl⟩;have f2:IntKind.u64.wrap (4294967296*(r:Int))=(K:Int):=by rw[show 4294967296*(r:Int)=(K:Int) by omega];exact bm (by omega)
      obtain⟨S2,hS2⟩: ∃S2,S2=K+T0:=⟨_,rfl⟩;have f3:IntKind.u64.wrap ((K:Int)+T0)=(S2:Int):=by rw[show(K:Int)+T0=(S2:Int) by omega];exact bm (by have:=HL6.out.2.2.1;omega)
      by_cases hgt:S2<M
      ·have hgt':(S2:Int)<M:=by omega
       have hq17:=yE (t:=T0) HL6.out.1 HL6.out.2.2.2.2.1 hqr.out.1 (by rw[←hM,←hK,←hS2];exact hgt);clear hM hK hS2 hMl hgt;have hq1:1≤q:=Nat.lt_of_le_of_lt (Nat.zero_le _) hq17;obtain⟨q',hq'⟩: ∃q',q=q'+1:=⟨q-1,by omega⟩;have f4:IntKind.u64.wrap ((q:Int)-1)=(q':Int):=by rw[hq',show((q'+1:Nat):Int)-1=(q':Int) by omega];exact bm (by omega)
       have f5:IntKind.u64.wrap ((r:Int)+A)=((r+A:Nat):Int):=bm (by omega);obtain⟨r',hr'⟩: ∃r',r'=r+A:=⟨_,rfl⟩;rw[←hr'] at f5;have hinv:q'*A+r'=V1:=by have h:=hqr.out.1;rw[hq',Nat.add_mul,Nat.one_mul] at h;omega
       have hQq:(V1*4294967296+T0)/Y≤q':=by omega
       by_cases hbr:4294967296≤r'
       ·have hbr':(4294967296:Int)≤r':=by omega
        have HBR:=Ad (lx HL6.out.1 HL6.out.2.1 HL6.out.2.2.2.1 hinv hQq hbr);clear hinv hQq hbr hr' hq' hq17;go_wp2_with fail;go_meet;exact⟨q',r',rfl,rfl,HBR.out,rfl⟩
       ·have hbr': ¬((4294967296:Int)≤r'):=by omega
        have HIN:=Ad (Ac hinv (Ac hQq hq'));have hrl':r'<4294967296:=by omega
        clear hinv hQq hbr hr' hq' hq17;go_wp2_with fail;go_roundg q';case measure=>have:=HIN.out.2.2;omega
        case rel=>exact⟨q',r',rfl,rfl,rfl,by have:=HIN.out.2.2;omega,hrl',⟨HIN.out.1,HIN.out.2.1⟩,rfl⟩
      ·have hgt': ¬((S2:Int)<M):=by omega
       have HEND:=Ad (tv (t:=T0) HL6.out.1 HL6.out.2.2.2.2.1 hqr.out.1 hqr.out.2 (by rw[←hM,←hK,←hS2];omega));clear hM hK hS2 hMl hgt;go_wp2_with fail;go_meet;exact⟨q,r,rfl,rfl,HEND.out,rfl⟩
   case rest=>
    obtain⟨q2,r2,rfl,rfl,hq2,rfl⟩:=hcut;have HQ2:=Ad hq2;clear hq2;obtain⟨W,hW⟩: ∃W,W=(V1*4294967296+T0)%Y:=⟨_,rfl⟩;have HSB2:=Ad (yI HQ2.out hW HY0.out HE.out.2.1.2);have HW:=Ad hW;clear hW;have hfin:q*4294967296+q2=N/y∧W/2^s=N%y:=by obtain⟨d1,d2⟩:=yM 4294967296 Y U T1 T0 HY0.out;rw[←HQ.out.1,←HQ.out.2,←HQ2.out] at d1;rw[←HQ.out.2,←HW.out] at d2;(have hT:(U*4294967296+T1)*4294967296+T0=N*2^s:=by rw[HE2.out.1.1];have h1:=HE2.out.2.1;have h2:=HE2.out.2.2.1;clear d1 d2;omega);rw[hT,HE.out.1] at d1 d2;obtain⟨e1,e2⟩:=yQ (N:=N) (y:=y) HE2.out.2.2.2.2;exact⟨by rw[d1,e1],by rw[d2,e2]⟩
    have hqK:q<4294967296:=by rw[HQ.out.1];exact uE HE2.out.1.2.1 (by rw[HE2.out.2.1];have h:=HE2.out.2.2.2.1;omega) (Nat.le_refl _)
    have hq2K:q2<4294967296:=by rw[HQ2.out];exact uE HVY.out (by rw[HE2.out.2.2.1];exact Nat.mod_lt _ (by decide)) (Nat.le_refl _)
    have e1:IntKind.u64.wrap ((q:Int)*4294967296)=((q*4294967296:Nat):Int):=by rw[show(q:Int)*4294967296=((q*4294967296:Nat):Int) by simp];exact bm (by omega)
    have e2:IntKind.u64.wrap (((q*4294967296:Nat):Int)+(q2:Int))=((N/y:Nat):Int):=by rw[show((q*4294967296:Nat):Int)+(q2:Int)=((q*4294967296+q2:Nat):Int) by simp,hfin.1];exact bm (by rw[←hfin.1];omega)
    have e3:(W:Int)/2^s=((N%y:Nat):Int):=by rw[←hfin.2];simp
    have HX:=Ad (Ac e1 (Ac e2 e3));clear e1 e2 e3 hfin hqK hq2K;go_wp2_with fail;simp only[HSB2.out,HX.out.1,HX.out.2.1,HX.out.2.2];refine bodyPost_ret (v:=.tuple #[.int .u64 ((N/y:Nat):Int),.int .u64 ((N%y:Nat):Int)]) (by simp[results,Tryz.results325,go_sem]<;>rfl) rfl ?_;exact⟨rfl,0,rfl⟩
def kL(P d:Nat):Value:=if d≤P/18446744073709551616 then .tuple #[.int .u64 9223372036854775808,.int .i64 0] else .tuple #[.int .u64 (P/d:Nat),.int .i64 (if d<2*(P%d) then 1 else if 2*(P%d)=d then 0 else-1)]
theorem sv(n k d:Nat)(w:World)(hn:n<18446744073709551616)(hk:k≤63)(hd0:0<d)(hd:d<9223372036854775808):Calls Tryz.prog 286 #[.int .u64 n,.int .u64 k,.int .u64 d] w (fV w (kL (n*2^k) d)):=by
 obtain⟨E,hE,hEi⟩: ∃E:Nat,E=2^k∧(2:Int)^k=(E:Int):=⟨_,rfl,by simp⟩;have hEl:E<18446744073709551616:=by rw[hE];exact Nat.lt_of_le_of_lt (Nat.pow_le_pow_right (by decide) hk) (by decide)
 have hEw:=bm hEl;rw[←hE];have hM:=Tryz.bits_Mul64 n E hn hEl w;obtain⟨P,hP⟩: ∃P,P=n*E:=⟨_,rfl⟩;rw[←hP] at hM ⊢;obtain⟨hi,hhi⟩: ∃h,h=P/18446744073709551616:=⟨_,rfl⟩;obtain⟨lo,hlo⟩: ∃l,l=P%18446744073709551616:=⟨_,rfl⟩;rw[←hhi,←hlo] at hM;have hPe:hi*18446744073709551616+lo=P:=by rw[hhi,hlo,Nat.mul_comm];exact Nat.div_add_mod _ _
 have hlol:lo<18446744073709551616:=by rw[hlo];exact Nat.mod_lt _ (by decide)
 obtain⟨V,hV⟩: ∃V,V=kL P d:=⟨_,rfl⟩;rw[←hV];unfold kL at hV;rw[←hhi] at hV;have HM:=Ad hM;have HF:=Ad (Ac hEi hEw);have HE:=Ad (Ac hPe hlol);clear hM hEi hEw hE hEl hP hhi hlo hPe hlol;by_cases hge:d≤hi
 ·rw[if_pos hge] at hV;have hge':(d:Int)≤hi:=by omega
  have HV:=Ad hV;clear hV;go_enter Tryz.func286,Tryz.ntmps286;go_wp2_with fail;simp only[HF.out.1,HF.out.2];refine HM.out.mono ?_;rintro e w1 ⟨rfl,rfl⟩;go_wp2_with fail;refine bodyPost_ret (v:=.tuple #[.int .u64 9223372036854775808,.int .i64 0]) (by simp[results,Tryz.results286,go_sem, *]<;>rfl) rfl ?_;exact⟨by rw[HV.out],0,rfl⟩
 ·rw[if_neg hge] at hV;have hge': ¬((d:Int)≤hi):=by omega
  have hdv:=fun w=>vE hi lo d w (by omega) HE.out.2 (by omega);rw[HE.out.1] at hdv;have hrl:P%d<d:=Nat.mod_lt _ hd0;obtain⟨q,hq⟩: ∃q,q=P/d:=⟨_,rfl⟩;obtain⟨r,hr⟩: ∃r,r=P%d:=⟨_,rfl⟩;rw[←hr] at hrl;rw[←hq,←hr] at hV hdv;obtain⟨g,hg⟩: ∃g,d=g+r:=⟨d-r,by omega⟩;have f1:IntKind.u64.wrap ((d:Int)-r)=(g:Int):=by rw[show(d:Int)-r=(g:Int) by omega];exact bm (by omega)
  have HD:=Ad hdv;clear hdv hq hr;have HG:=Ad (Ac hg hV);clear hg hV;go_enter Tryz.func286,Tryz.ntmps286;go_wp2_with fail;simp only[HF.out.1,HF.out.2];refine HM.out.mono ?_;rintro e w1 ⟨rfl,rfl⟩;go_wp2_with fail;refine(HD.out _).mono ?_;rintro e w2 ⟨rfl,m,rfl⟩;obtain⟨hg,hV⟩:=HG.out;by_cases c1:g<r
  ·have c1':(g:Int)<r:=by omega
   rw[if_pos (by omega)] at hV;have HV2:=Ad hV;clear hV hg c1 hrl;go_wp2_with fail;refine bodyPost_ret (v:=.tuple #[.int .u64 (q:Int),.int .i64 1]) (by simp[results,Tryz.results286,go_sem, *]<;>rfl) rfl ?_;exact⟨by rw[HV2.out],m,rfl⟩
  ·have c1': ¬((g:Int)<r):=by omega
   by_cases c2:r=g
   ·have c2':((r:Int)==g)=true:=by simp[c2]
    rw[if_neg (by omega),if_pos (by omega)] at hV;have HV2:=Ad hV;clear hV hg c1 hrl c2;go_wp2_with fail;refine bodyPost_ret (v:=.tuple #[.int .u64 (q:Int),.int .i64 0]) (by simp[results,Tryz.results286,go_sem, *]<;>rfl) rfl ?_;exact⟨by rw[HV2.out],m,rfl⟩
   ·have c2':((r:Int)==g)=false:=by simp;omega
    rw[if_neg (by omega),if_neg (by omega)] at hV;have HV2:=Ad hV;clear hV hg c1 hrl c2;go_wp2_with fail;refine bodyPost_ret (v:=.tuple #[.int .u64 (q:Int),.int .i64 (-1)]) (by simp[results,Tryz.results286,go_sem, *]<;>rfl) rfl ?_;exact⟨by rw[HV2.out],m,rfl⟩
end Go.Proofs.YtodpdjehjllhdaaGreatDoor
